/- Drawn words, calls and tests. Conditions: each contract's own. -/
import Derived.Test.YtljgaepgblakhaaDoorDraw
import Derived.Test.YtljgaepgblakhaaDoorCall
import Derived.Deep.RegionHeld3
import Derived.Deep.AppendLies
import Derived.Deep.RegionLaw
namespace Go.Proofs.YtljgaepgblakhaaDoor
set_option linter.unusedSimpArgs false
open Go.RowKit
set_option linter.unusedVariables false
theorem ints_get {l : List Value} {i : Nat} (h : i < l.length) (ha : ∀ v ∈ l, ∃ x, v = .int .i64 x) : ∃ x, l[i] = .int .i64 x := ha _ (List.getElem_mem h)
theorem gr_grown {a w w' : World} {g : Nat} {row : Option Nat} (h : a.grownBy w (some g)) (k : w.grownBy w' row) (hr : ∀ b, row = some b → b = g ∨ a.heap.size ≤ b) : a.grownBy w' (some g) :=
  ⟨k.os.trans h.os, k.tape.trans h.tape, k.output.trans h.output, Nat.le_trans h.size k.size, fun i hi hne => (k.block i (Nat.lt_of_lt_of_le hi h.size) (fun e => by
    rcases hr i e.symm with r | r
    · exact hne (by rw [r])
    · omega)).trans (h.block i hi hne)⟩
/-- A reader stays where another block is written. -/
theorem Dr.other {w w' : World} {g t : Nat} {p : Int} {A : Option Addr} {n c : Nat} {xs : List Int} {row : Option Nat} (h : Dr w g t p A n c xs) (k : w.grownBy w' row) (hr : ∀ b, row = some b → g < b) : Dr w' g t p A n c xs :=
  ⟨(k.block g h.blk.lt (fun e => by have := hr g e.symm; omega)).trans h.blk, ⟨h.rd.1, fun hn => by
    obtain ⟨b, off, e, hlt, hc⟩ := h.rd.2 hn
    exact ⟨b, off, e, hlt, fun j u hu => (World.cell?_of_block (w := w) (a := ⟨b, off + j, none⟩) (k.block b (Nat.lt_trans hlt h.blk.lt) (fun e => by have := hr b e.symm; omega))).trans (hc j u hu)⟩⟩, h.byte, h.size, h.low⟩
theorem Blk.other {w w' : World} {g t : Nat} {cs : List Value} {row : Option Nat} (h : Blk w g t cs) (k : w.grownBy w' row) (hr : row ≠ some g) : Blk w' g t cs := (k.block g h.lt (fun e => hr e.symm)).trans h
theorem Dr.far {w : World} {g t : Nat} {p : Int} {A : Option Addr} {n c : Nat} {xs : List Int} (h : Dr w g t p A n c xs) {a : Addr} (ha : g < a.block) (u : Value) : Dr (w.setCell a u) g t p A n c xs :=
  h.other (row := some a.block) ⟨rfl, rfl, rfl, by simp, fun k _ hk => heap_setCell_other w a k u (fun e => hk (by rw [e]))⟩ (fun b e => by injection e with e; omega)
theorem lit_at (l : List Int) (i : Int) (h0 : 0 ≤ i) (hi : i < l.length) : ∃ x, (l.map (Value.int .i64))[i.toNat]? = some (.int .i64 x) := by
  obtain ⟨k, rfl⟩ := Int.eq_ofNat_of_zero_le h0
  have : k < l.length := by omega
  exact ⟨l[k], by simp [this]⟩
def IntIs (v : Value) (_ : World) : Prop := ∃ x, v = .int .i64 x
/-- A word. -/
def WordIs (v : Value) (_ : World) : Prop := ∃ x, v = .int .i64 x ∧ 0 ≤ x ∧ x ≤ 4294967295
theorem words_get {l : List Value} {i : Nat} (h : i < l.length) (ha : ∀ v ∈ l, ∃ x, v = .int .i64 x ∧ 0 ≤ x ∧ x ≤ 4294967295) : ∃ x, l[i] = .int .i64 x ∧ 0 ≤ x ∧ x ≤ 4294967295 := ha _ (List.getElem_mem h)
theorem callB_of {num : Int} {ys : List Int} (h0 : 0 ≤ num) (h1 : num ≤ 4294967295) (hl : ys.length = 4) (ha : ∀ y ∈ ys, 0 ≤ y ∧ y ≤ 4294967295) : callB num ys = true := by
  simp only [callB, wordB, Bool.and_eq_true, decide_eq_true_eq, beq_iff_eq, List.all_eq_true]
  exact ⟨⟨⟨h0, h1⟩, hl⟩, ha⟩
theorem words_add {ys : List Int} {x : Int} (h : ∀ y ∈ ys, 0 ≤ y ∧ y ≤ 4294967295) (h0 : 0 ≤ x) (h1 : x ≤ 4294967295) : ∀ y ∈ ys ++ [x], 0 ≤ y ∧ y ≤ 4294967295 := by
  intro y hy
  rcases List.mem_append.1 hy with hy | hy
  · exact h y hy
  · rw [List.mem_singleton.1 hy]; exact ⟨h0, h1⟩
theorem dword_c (g : Nat) (p : Int) (A : Option Addr) (n c : Nat) (xs : List Int) (w : World) (h : Dr w g 122 p A n c xs) (hp : p ≤ 1099511627000) :
    Calls Tryd.prog 118 #[.pointer (some ⟨g, 0, none⟩)] w (RetDraw WordIs g 122 p 4 A n c xs w) := by
  have hlow := h.low
  have hgl := h.blk.lt
  have D0 := Lib.hid h
  clear h
  go_enter Tryd.func118, Tryd.ntmps118
  (go_wp2_with fail); (go_at_call 63; refine (pick_c g _ _ A n c xs _ D0.out (by omega)).mono ?_; rintro e w1 ⟨_, q1, rfl, ⟨x1, rfl, l1, u1⟩, d1, e1, f1, g1⟩; obtain ⟨gc1, gf1⟩ := grown_get g1; (try simp only [heap_drew, World.size_alloc, World.size_setCell] at gc1 gf1); have hs1 := g1.size; (try simp at hs1); have G1 := Lib.hid (gr_via (w := w) (by (repeat' (first | exact gr_refl _ _ | (with_reducible assumption) | exact Hid.out (by assumption) | refine gr_drew ?_ | refine gr_drewN ?_ _ | refine gr_alloc ?_ _ | refine gr_set ?_ ?_ _ | omega | (simp; omega)))) g1); clear g1; have D1 := Lib.hid d1; clear d1)
  (go_wp2_with fail); (go_at_call 63; refine (pick_c g _ _ A n c xs _ D1.out (by omega)).mono ?_; rintro e w2 ⟨_, q2, rfl, ⟨x2, rfl, l2, u2⟩, d2, e2, f2, g2⟩; obtain ⟨gc2, gf2⟩ := grown_get g2; (try simp only [heap_drew, World.size_alloc, World.size_setCell] at gc2 gf2); have hs2 := g2.size; (try simp at hs2); have G2 := Lib.hid (gr_via (w := w) (by (repeat' (first | exact gr_refl _ _ | (with_reducible assumption) | exact Hid.out (by assumption) | refine gr_drew ?_ | refine gr_drewN ?_ _ | refine gr_alloc ?_ _ | refine gr_set ?_ ?_ _ | omega | (simp; omega)))) g2); clear g2; have D2 := Lib.hid d2; clear d2)
  (go_wp2_with fail); (go_at_call 63; refine (pick_c g _ _ A n c xs _ D2.out (by omega)).mono ?_; rintro e w3 ⟨_, q3, rfl, ⟨x3, rfl, l3, u3⟩, d3, e3, f3, g3⟩; obtain ⟨gc3, gf3⟩ := grown_get g3; (try simp only [heap_drew, World.size_alloc, World.size_setCell] at gc3 gf3); have hs3 := g3.size; (try simp at hs3); have G3 := Lib.hid (gr_via (w := w) (by (repeat' (first | exact gr_refl _ _ | (with_reducible assumption) | exact Hid.out (by assumption) | refine gr_drew ?_ | refine gr_drewN ?_ _ | refine gr_alloc ?_ _ | refine gr_set ?_ ?_ _ | omega | (simp; omega)))) g3); clear g3; have D3 := Lib.hid d3; clear d3)
  have k3 := u3 (by omega)
  have k1 := u1 (by omega)
  have k2 := u2 (by omega)
  have n3 : w3.heap.size ≠ g := by omega
  (go_wp2_with fail); (go_at_call 63; refine (pick_c g _ _ A n c xs _ (D3.out.upto (by go_grown)) (by omega)).mono ?_; rintro e w4 ⟨_, q4, rfl, ⟨x4, rfl, l4, u4⟩, d4, e4, f4, g4⟩; obtain ⟨gc4, gf4⟩ := grown_get g4; (try simp only [heap_drew, World.size_alloc, World.size_setCell] at gc4 gf4); have hs4 := g4.size; (try simp at hs4); have G4 := Lib.hid (gr_via (w := w) (by (repeat' (first | exact gr_refl _ _ | (with_reducible assumption) | exact Hid.out (by assumption) | refine gr_drew ?_ | refine gr_drewN ?_ _ | refine gr_alloc ?_ _ | refine gr_set ?_ ?_ _ | omega | (simp; omega)))) g4); clear g4; have D4 := Lib.hid d4; clear d4)
  go_wp2
  go_returns
  refine ⟨_, q4, rfl, ?_, D4.out, by omega, by omega, G4.out⟩
  have := u4 (by omega)
  refine words_get (l := [.int .i64 x1, .int .i64 x2, .int .i64 (16 * x3), .int .i64 4294967295, .int .i64 4294967294, .int .i64 65535]) (i := x4.toNat) (by simp; omega) ?_
  intro v hv
  simp only [List.mem_cons, List.not_mem_nil, or_false] at hv
  rcases hv with rfl | rfl | rfl | rfl | rfl | rfl <;> exact ⟨_, rfl, by omega, by omega⟩
/-- A drawn call: its words are n ints in memory of its own, from block B on. -/
def CallIs (E B n : Nat) (v : Value) (w : World) : Prop := ∃ num A c xs, v = .agg #[.int .i64 num, .slice A n c] ∧ w.ownsRow B E 1 (.slice A n c) n (ints xs) ∧ callB num xs = true
set_option maxRecDepth 100000 in
theorem drawCall_c (g : Nat) (p : Int) (A : Option Addr) (n c : Nat) (xs : List Int) (w : World) (h : Dr w g 122 p A n c xs) (hp : p ≤ 1099511620000) :
    Calls Tryd.prog 108 #[.pointer (some ⟨g, 0, none⟩)] w (RetDraw (CallIs 3 w.heap.size 4) g 122 p 22 A n c xs w) := by
  obtain ⟨i0, hi0, hz0, hz1, hz2⟩ := info_parts info_int
  have hlow := h.low
  have hgl := h.blk.lt
  have D0 := Lib.hid h
  clear h
  have hA := Lib.hid ((Blk.new w 28 [.int .i64 0, .slice none 0 0]))
  go_enter Tryd.func108, Tryd.ntmps108
  (go_wp2_with fail); (go_at_call 63; refine (pick_c g _ _ A n c xs _ (D0.out.upto (by go_grown)) (by omega)).mono ?_; rintro e w1 ⟨_, q1, rfl, ⟨x1, rfl, l1, u1⟩, d1, e1, f1, g1⟩; have A1 := Lib.hid (hA.out.other g1 (by simp; omega)); clear hA; obtain ⟨gc1, gf1⟩ := grown_get g1; (try simp only [heap_drew, World.size_alloc, World.size_setCell] at gc1 gf1); have hs1 := g1.size; (try simp at hs1); have G1 := Lib.hid (gr_via (w := w) (by (repeat' (first | exact gr_refl _ _ | (with_reducible assumption) | exact Hid.out (by assumption) | refine gr_drew ?_ | refine gr_drewN ?_ _ | refine gr_alloc ?_ _ | refine gr_set ?_ ?_ _ | omega | (simp; omega)))) g1); clear g1; have D1 := Lib.hid d1; clear d1; have z1_0 : w.heap.size < w1.heap.size := (by omega); have n1_0 : w.heap.size ≠ g := (by omega))
  have n1 : w1.heap.size ≠ g := by omega
  have n0 : w.heap.size ≠ w1.heap.size := by omega
  have hB := Lib.hid ((Blk.new w1 28 [.int .i64 x1, .slice none 0 0]))
  (go_wp2_with fail); (go_at_call 63; refine (pick_c g _ _ A n c xs _ (D1.out.upto (by go_grown)) (by omega)).mono ?_; rintro e w2 ⟨_, q2, rfl, ⟨x2, rfl, l2, u2⟩, d2, e2, f2, g2⟩; have A2 := Lib.hid ((A1.out.alloc _).other g2 (by simp; omega)); have B2 := Lib.hid (hB.out.other g2 (by simp; omega)); clear hB; obtain ⟨gc2, gf2⟩ := grown_get g2; (try simp only [heap_drew, World.size_alloc, World.size_setCell] at gc2 gf2); have hs2 := g2.size; (try simp at hs2); have G2 := Lib.hid (gr_via (w := w) (by (repeat' (first | exact gr_refl _ _ | (with_reducible assumption) | exact Hid.out (by assumption) | refine gr_drew ?_ | refine gr_drewN ?_ _ | refine gr_alloc ?_ _ | refine gr_set ?_ ?_ _ | omega | (simp; omega)))) g2); clear g2; have D2 := Lib.hid d2; clear d2; have z2_0 : w.heap.size < w2.heap.size := (by omega); have n2_0 : w.heap.size ≠ g := (by omega); have z2_1 : w1.heap.size < w2.heap.size := (by omega); have n2_1 : w1.heap.size ≠ g := (by omega))
  go_upto_if 10 with (fail)
  go_cut [] (fun wx => ∃ num q, Hid (Blk wx w.heap.size 28 [.int .i64 0, .slice none 0 0]) ∧ Hid (Blk wx w1.heap.size 28 [.int .i64 num, .slice none 0 0]) ∧ Hid (Dr wx g 122 q A n c xs) ∧ p ≤ q ∧ q ≤ p + 6 ∧ Hid (w.grownBy wx (some g)) ∧ w1.heap.size < wx.heap.size ∧ 0 ≤ num ∧ num ≤ 4294967295)
  case first =>
    go_wp2_with fail
    · (go_wp2_with fail); (go_at_call 118; refine (dword_c g _ A n c xs _ D2.out (by omega)).mono ?_; rintro e w3 ⟨_, q3, rfl, ⟨x3, rfl, r3, r3'⟩, d3, e3, f3, g3⟩; have A3 := Lib.hid (A2.out.other g3 (by simp; omega)); have B3 := Lib.hid (B2.out.other g3 (by simp; omega)); obtain ⟨gc3, gf3⟩ := grown_get g3; (try simp only [heap_drew, World.size_alloc, World.size_setCell] at gc3 gf3); have hs3 := g3.size; (try simp at hs3); have G3 := Lib.hid (gr_via (w := w) (by (repeat' (first | exact gr_refl _ _ | (with_reducible assumption) | exact Hid.out (by assumption) | refine gr_drew ?_ | refine gr_drewN ?_ _ | refine gr_alloc ?_ _ | refine gr_set ?_ ?_ _ | omega | (simp; omega)))) g3); clear g3; have D3 := Lib.hid d3; clear d3; have z3_0 : w.heap.size < w3.heap.size := (by omega); have n3_0 : w.heap.size ≠ g := (by omega); have z3_1 : w1.heap.size < w3.heap.size := (by omega); have n3_1 : w1.heap.size ≠ g := (by omega); have c30 := B3.out.cell (i := 0) rfl; have cf3 := B3.out.free)
      go_wp2_with fail
      go_meet
      exact ⟨x3, q3, A3.out.far (by simp; omega) _, B3.out.set_ 0 _, D3.out.far (by simp; omega) _, by omega, by omega, gr_set G3.out (.inr (by simp; omega)) _, by simp; omega, r3, r3'⟩
    · go_meet
      exact ⟨x1, q2, A2, B2, D2, by omega, by omega, G2, by omega, l1, by have := u1 (by omega); omega⟩
  case rest =>
    obtain ⟨num, q, HA, HB, HD, hq1, hq2, HG, hz, hm0, hm1⟩ := hcut
    go_wp2
    go_loopg [4] 4 (fun gk i wr => ∃ (k : Nat) (v : Value) (ys : List Int) (q : Int), gk + k = 4 ∧ i = .int .i64 k ∧ Hid (Blk wr w.heap.size 28 [.int .i64 0, .slice none 0 0]) ∧ Hid (Blk wr w1.heap.size 28 [.int .i64 num, v]) ∧ Hid (wr.ownsRow (w1.heap.size + 1) 3 1 v k (ints ys)) ∧ Hid (Dr wr g 122 q A n c xs) ∧ p ≤ q ∧ q ≤ p + 6 + 4 * k ∧ Hid (w.grownBy wr (some g)) ∧ w1.heap.size < wr.heap.size ∧ Hid (∀ y ∈ ys, 0 ≤ y ∧ y ≤ 4294967295))
    case atStart => exact ⟨0, _, [], q, rfl, rfl, HA, HB, World.ownsRow_nil _ _ _ _, HD, by omega, by omega, HG, hz, Lib.hid (fun y h => by cases h)⟩
    case round =>
      obtain ⟨k, v, ys, q', hgk, rfl, HA, HB, HO, HD, hq1', hq2', HG, hz, HYS⟩ := hrel
      have c0 := HB.out.cell (i := 1) rfl
      have cf := HB.out.free
      have hob : ∀ b, v.ownBlock = some b → w1.heap.size + 1 ≤ b := fun b hb => (HO.out.lt b hb).1
      have HOB := Lib.hid hob
      clear hob
      by_cases hk : k < 4
      · obtain ⟨gk, rfl⟩ : ∃ m, gk = m + 1 := ⟨gk - 1, by omega⟩
        go_wp2
        go_region_law (first
          | (refine step_append_lies _ (by rfl) _ _ _ (by rfl) (w1.heap.size + 1) 3 i0 _ 1 8 Tryd.underlying26 hi0 hz0 hz1 hz2 rfl (by omega) v k (ints ys) (by rfl) (HO4.out.alloc _)
               ⟨w4.heap.size, 0, none⟩ 1 1 [.int .i64 x4] (by rfl) (by rfl) (cell_one_new _ _ _) (by simp [Value.oneCell']) (by omega) (by unfold maxLen; omega) (by omega) (by simp; omega) _ rfl ?_; intro gg cap w5 hown5 hgr5 hat5 hlt5; have A5 := Lib.hid ((A4.out.alloc _).other hgr5 (fun e => by have := HOB.out _ e; omega)); have B5 := Lib.hid ((HB4.out.alloc _).other hgr5 (fun e => by have := HOB.out _ e; omega)); have c5 := B5.out.cell (i := 1) rfl; have cf5 := B5.out.free; have hs5 := hgr5.size; simp at hs5; have D5 := Lib.hid ((D4.out.upto (Below.alloc (Below.refl _ _) (Nat.le_refl _) _)).other hgr5 (fun b e => by have := HOB.out _ e; omega)); have G5 := Lib.hid (gr_grown (gr_alloc G4.out _) hgr5 (fun b e => by have := HOB.out _ e; omega)); have HO5 := Lib.hid hown5; clear hown5 hgr5 hat5 hlt5)
          | (go_simp; (go_at_call 118; refine (dword_c g _ A n c xs _ (HD.out.drewN 1) (by omega)).mono ?_; rintro e w4 ⟨_, q4, rfl, ⟨x4, rfl, r4, r4'⟩, d4, e4, f4, g4⟩; have HO4 := Lib.hid (HO.out.drew.kept g4 (by right; intro e; have := HOB.out g e; omega)); have A4 := Lib.hid (HA.out.drew.other g4 (by simp; omega)); have HB4 := Lib.hid (HB.out.drew.other g4 (by simp; omega)); have c4 := HB4.out.cell (i := 1) rfl; have cf4 := HB4.out.free; have hs4 := g4.size; simp at hs4; have z4 : w1.heap.size < w4.heap.size := (by omega); have G4 := Lib.hid (gr_via (gr_drew HG.out) g4); have D4 := Lib.hid d4; clear g4 d4)))
        all_goals
          go_wp2
          go_roundg gk
          case measure => omega
          case rel =>
            go_light
            exact ⟨k + 1, _, ys ++ [x4], q4, by omega, by go_num, A5.out.far (by simp; omega) _, B5.out.set_ 1 _, by have := ownsRow_setCell_below HO5.out (a := ⟨w1.heap.size, 1, none⟩) (by simp) (.slice (some ⟨gg, 0, none⟩) (k + 1) cap); simpa [ints, Hid] using this, D5.out.far (by simp; omega) _, by omega, by omega, gr_set G5.out (.inr (by simp; omega)) _, by simp; omega, Lib.hid (words_add HYS.out r4 r4')⟩
      · obtain rfl : k = 4 := by omega
        obtain ⟨gg, cap, rfl⟩ : ∃ gg cap, v = .slice (some ⟨gg, 0, none⟩) 4 cap := by
          rcases HO.out.2 with ⟨_, h0⟩ | ⟨gg, cap, cur, hv, _⟩
          · omega
          · exact ⟨gg, cap, hv⟩
        have c1 := HB.out.cell (i := 0) rfl
        have hn0 : w.heap.size ≠ w1.heap.size := by omega
        have a0 := HA.out.cell (i := 0) rfl
        have a1 := HA.out.cell (i := 1) rfl
        have af := HA.out.free
        go_wp2
        refine bodyPost_ret (v := .agg #[.int .i64 num, .slice (some ⟨gg, 0, none⟩) 4 cap]) (by simp [results, Tryd.results108, go_sem, a0, a1]) rfl ?_
        go_light
        exact ⟨_, q', rfl, ⟨num, _, cap, ys, rfl, own_base (ownsRow_setCell_below (ownsRow_setCell_below HO.out (a := ⟨w.heap.size, 0, none⟩) (by simp; omega) (.int .i64 num)) (a := ⟨w.heap.size, 1, none⟩) (by simp; omega) (.slice (some ⟨gg, 0, none⟩) 4 cap)) (by omega), callB_of hm0 hm1 (by have := HO.out.1; rw [ints_len] at this; omega) HYS.out⟩, (HD.out.far (by simp; omega) _).far (by simp; omega) _, by omega, by omega, gr_set (gr_set HG.out (.inr (by simp)) _) (.inr (by simp)) _⟩
end Go.Proofs.YtljgaepgblakhaaDoor
