/- Drawn graphs: one that is bent somewhere. Conditions: each contract's own. -/
import Derived.Test.YtljgaepgblakhaaJcd65374a1e
namespace Go.Proofs.Ytljgaepgblakhaa
set_option linter.unusedSimpArgs false
open Go.RowKit
set_option linter.unusedVariables false
set_option linter.unnecessarySimpa false
set_option maxRecDepth 20000
theorem pts_of : ∀ (n : Nat) (l : List Value), l.length = n * 7 → (∀ u ∈ l, ∃ y, u = .int .i64 y) → ∃ qs : List Pt, qs.length = n ∧ pts qs = l
  | 0, l, h, _ => ⟨[], rfl, by have : l = [] := List.eq_nil_of_length_eq_zero (by omega); subst this; rfl⟩
  | n + 1, l, h, hi => by
    match l, h, hi with
    | a0 :: a1 :: a2 :: a3 :: a4 :: a5 :: a6 :: t, h, hi =>
      obtain ⟨qs, hl, he⟩ := pts_of n t (by simp at h; omega) (fun u hu => hi u (by simp [hu]))
      obtain ⟨y0, rfl⟩ := hi a0 (by simp)
      obtain ⟨y1, rfl⟩ := hi a1 (by simp)
      obtain ⟨y2, rfl⟩ := hi a2 (by simp)
      obtain ⟨y3, rfl⟩ := hi a3 (by simp)
      obtain ⟨y4, rfl⟩ := hi a4 (by simp)
      obtain ⟨y5, rfl⟩ := hi a5 (by simp)
      obtain ⟨y6, rfl⟩ := hi a6 (by simp)
      exact ⟨⟨y0, y1, y2, y3, y4, y5, y6⟩ :: qs, by simp [hl], by simp only [pts, List.flatMap_cons] at he ⊢; rw [he]; rfl⟩
    | [], h, _ => simp at h
    | [_], h, _ => simp at h; omega
    | [_, _], h, _ => simp at h; omega
    | [_, _, _], h, _ => simp at h; omega
    | [_, _, _, _], h, _ => simp at h; omega
    | [_, _, _, _, _], h, _ => simp at h; omega
    | [_, _, _, _, _, _], h, _ => simp at h; omega
theorem pts_int {ps : List Pt} : ∀ u ∈ pts ps, ∃ y, u = .int .i64 y := by
  intro u hu
  obtain ⟨p, _, hp⟩ := List.mem_flatMap.1 hu
  simp only [Pt.cells, List.mem_cons, List.not_mem_nil, or_false] at hp
  rcases hp with rfl | rfl | rfl | rfl | rfl | rfl | rfl <;> exact ⟨_, rfl⟩
theorem one_pts (ps : List Pt) : ∀ u ∈ pts ps, u.oneCell' = true := fun u hu => by
  obtain ⟨y, rfl⟩ := pts_int u hu
  rfl
theorem own_put {w : World} {base e g n cap : Nat} {ps : List Pt} (h : w.ownsRow base e 7 (.slice (some ⟨g, 0, none⟩) n cap) n (pts ps)) (o : Nat) (y : Int) :
    ∃ qs : List Pt, (w.setCell ⟨g, o, none⟩ (.int .i64 y)).ownsRow base e 7 (.slice (some ⟨g, 0, none⟩) n cap) n (pts qs) := by
  have h1 := (h.stored o (.int .i64 y)).1
  obtain ⟨qs, _, e⟩ := pts_of n ((pts ps).set o (.int .i64 y)) (by have := h.1; simp; omega) (fun u hu => by
    rcases List.mem_or_eq_of_mem_set hu with h2 | h2
    · exact pts_int u h2
    · exact ⟨y, h2⟩)
  exact ⟨qs, by rw [e]; exact h1⟩
set_option maxHeartbeats 4000000 in
set_option maxRecDepth 100000 in
theorem bentGraph_c (g : Nat) (p : Int) (A : Option Addr) (n c : Nat) (xs : List Int) (PA : Option Addr) (pn pc : Nat) (ps : List Pt) (w : World) (h : Dr w g 51 p A n c xs) (hp : p ≤ 1099511600000) (hr : Rd w w.heap.size 7 PA pn (pts ps)) (hn : pn ≤ 120) :
    Calls Try.prog 15 #[.pointer (some ⟨g, 0, none⟩), .slice PA pn pc] w (RetDraw (PtsIs 29 w.heap.size 121) g 51 p 4 A n c xs w) := by
  obtain ⟨i0, hi0, hz0, hz1, hz2⟩ := info_parts info_point
  have hlow := h.low
  have hgl := h.blk.lt
  have D0 := Lib.hid h
  have HR := Lib.hid hr
  clear h hr
  have HE := Lib.hid (own_empty7 w 29 w.heap.size w.heap.size 7 rfl (Nat.le_refl _))
  have HRT := Lib.hid (HR.out.upB (w' := w.alloc (.cells #[] 29)) (by go_grown) (by go_size))
  by_cases h0 : pn = 0
  · subst h0
    go_enter Try.func15, Try.ntmps15
    go_wp2_with (at_builtin; (refine wpList_append_rd _ rfl _ _ 23 rfl w.heap.size 29 i0 _ 7 56 Try.underlying23 hi0 hz0 hz1 hz2 rfl (by omega) (.slice (some ⟨w.heap.size, 0, none⟩) 0 0) 0 [] rfl HE.out _ PA 0 pc (pts ps) rfl HRT.out (one_pts ps) (by unfold maxLen; omega) (by omega) (by simp) ?_; intro A1 c1 w1 ho1 hg1 ha1; rw [Nat.zero_add, List.nil_append] at ho1; simp only [Nat.zero_add] at ha1 ⊢; have hs1 := hg1.size; simp at hs1; have O1 := Lib.hid ho1; have D1 := Lib.hid ((D0.out.upto (Below.alloc (Below.refl _ _) (Nat.le_refl _) _)).other hg1 (fun b e => by have := ob_of (show (Value.slice (some ⟨w.heap.size, 0, none⟩) 0 0).ownBlock = some b from e); omega)); have G1 := Lib.hid (gr_grown (gr_alloc (gr_refl w g) _) hg1 (fun b e => .inr (by have := ob_of (show (Value.slice (some ⟨w.heap.size, 0, none⟩) 0 0).ownBlock = some b from e); omega))); clear ho1 hg1 ha1))
    go_wp2
    go_returns
    exact ⟨_, p, rfl, ⟨A1, 0, c1, ps, rfl, O1.out, by omega⟩, D1.out, by omega, by omega, G1.out⟩
  · have k0 : ((pn : Int) == 0) = false := by simp; omega
    go_enter Try.func15, Try.ntmps15
    go_wp2_with (at_builtin; (refine wpList_append_rd _ rfl _ _ 23 rfl w.heap.size 29 i0 _ 7 56 Try.underlying23 hi0 hz0 hz1 hz2 rfl (by omega) (.slice (some ⟨w.heap.size, 0, none⟩) 0 0) 0 [] rfl HE.out _ PA pn pc (pts ps) rfl HRT.out (one_pts ps) (by unfold maxLen; omega) (by omega) (by simp) ?_; intro A1 c1 w1 ho1 hg1 ha1; rw [Nat.zero_add, List.nil_append] at ho1; simp only [Nat.zero_add] at ha1 ⊢; have hs1 := hg1.size; simp at hs1; have O1 := Lib.hid ho1; have D1 := Lib.hid ((D0.out.upto (Below.alloc (Below.refl _ _) (Nat.le_refl _) _)).other hg1 (fun b e => by have := ob_of (show (Value.slice (some ⟨w.heap.size, 0, none⟩) 0 0).ownBlock = some b from e); omega)); have G1 := Lib.hid (gr_grown (gr_alloc (gr_refl w g) _) hg1 (fun b e => .inr (by have := ob_of (show (Value.slice (some ⟨w.heap.size, 0, none⟩) 0 0).ownBlock = some b from e); omega))); clear ho1 hg1 ha1))
    obtain ⟨b1, rfl, hb0, hb1⟩ : ∃ b1, A1 = some ⟨b1, 0, none⟩ ∧ w.heap.size ≤ b1 ∧ b1 < w1.heap.size := by
      rcases O1.out.2 with ⟨_, h1⟩ | ⟨b, cap, cur, hv, hB, hg, hcap, _⟩
      · omega
      · injection hv with hv1 _ hv2
        subst hv1
        exact ⟨b, rfl, hB, (Array.getElem?_eq_some_iff.1 hg).1⟩
    (go_wp2_with fail); (go_at_call 14; refine (pick_c g _ _ A n c xs _ D1.out (by omega)).mono ?_; rintro e w2 ⟨_, q2, rfl, ⟨x2, rfl, l2, u2⟩, d2, e2, f2, g2⟩; have O2 := Lib.hid (own_gr O1.out g2 hgl); have G2 := Lib.hid (gr_via G1.out g2); have D2 := Lib.hid d2; have hs2 := g2.size; clear d2 g2)
    have v2 := u2 (by omega)
    obtain ⟨k, rfl⟩ := Int.eq_ofNat_of_zero_le l2
    (go_wp2_with fail); (go_at_call 14; refine (pick_c g _ _ A n c xs _ D2.out (by omega)).mono ?_; rintro e w3 ⟨_, q3, rfl, ⟨x3, rfl, l3, u3⟩, d3, e3, f3, g3⟩; have O3 := Lib.hid (own_gr O2.out g3 hgl); have G3 := Lib.hid (gr_via G2.out g3); have D3 := Lib.hid d3; have hs3 := g3.size; clear d3 g3)
    have v3 := u3 (by omega)
    clear u2 u3
    have d0 : x3 = 0 ∨ ¬ x3 = 0 := Decidable.em _
    rcases d0 with d0 | d0
    · subst d0
      (go_wp2_with fail); (go_at_call 14; refine (pick_c g _ _ A n c xs _ D3.out (by omega)).mono ?_; rintro e w4 ⟨_, q4, rfl, ⟨x4, rfl, l4, u4⟩, d4, e4, f4, g4⟩; have O4 := Lib.hid (own_gr O3.out g4 hgl); have G4 := Lib.hid (gr_via G3.out g4); have D4 := Lib.hid d4; have hs4 := g4.size; clear d4 g4)
      have v4 := u4 (by omega)
      clear u4
      obtain ⟨⟨y0, y1, y2, y3, y4, y5, y6, z0, z1, z2, z3, z4, z5, z6⟩, zf⟩ := own7 O4.out (show k < pn by omega)
      have hw4 : IntKind.i64.wrap (x4 - 1) = x4 - 1 := IntWalk.i64_in _ (by omega)
      go_wp2
      go_returns
      obtain ⟨qs, hq⟩ := own_put O4.out (k * 7 + 5) (x4 - 1)
      exact ⟨_, q4, rfl, ⟨_, pn, c1, qs, rfl, hq, by omega⟩, D4.out.far (by simp; omega) _, by omega, by omega, gr_set G4.out (.inr (by simp; omega)) _⟩
    have n0 : (x3 == 0) = false := by simpa using d0
    have d1 : x3 = 1 ∨ ¬ x3 = 1 := Decidable.em _
    rcases d1 with d1 | d1
    · subst d1
      (go_wp2_with fail); (go_at_call 14; refine (pick_c g _ _ A n c xs _ D3.out (by omega)).mono ?_; rintro e w4 ⟨_, q4, rfl, ⟨x4, rfl, l4, u4⟩, d4, e4, f4, g4⟩; have O4 := Lib.hid (own_gr O3.out g4 hgl); have G4 := Lib.hid (gr_via G3.out g4); have D4 := Lib.hid d4; have hs4 := g4.size; clear d4 g4)
      have v4 := u4 (by omega)
      clear u4
      obtain ⟨⟨y0, y1, y2, y3, y4, y5, y6, z0, z1, z2, z3, z4, z5, z6⟩, zf⟩ := own7 O4.out (show k < pn by omega)
      go_wp2
      go_returns
      obtain ⟨qs, hq⟩ := own_put O4.out (k * 7 + 3) (x4)
      exact ⟨_, q4, rfl, ⟨_, pn, c1, qs, rfl, hq, by omega⟩, D4.out.far (by simp; omega) _, by omega, by omega, gr_set G4.out (.inr (by simp; omega)) _⟩
    have n1 : (x3 == 1) = false := by simpa using d1
    have d2 : x3 = 2 ∨ ¬ x3 = 2 := Decidable.em _
    rcases d2 with d2 | d2
    · subst d2
      (go_wp2_with fail); (go_at_call 14; refine (pick_c g _ _ A n c xs _ D3.out (by omega)).mono ?_; rintro e w4 ⟨_, q4, rfl, ⟨x4, rfl, l4, u4⟩, d4, e4, f4, g4⟩; have O4 := Lib.hid (own_gr O3.out g4 hgl); have G4 := Lib.hid (gr_via G3.out g4); have D4 := Lib.hid d4; have hs4 := g4.size; clear d4 g4)
      have v4 := u4 (by omega)
      clear u4
      obtain ⟨⟨y0, y1, y2, y3, y4, y5, y6, z0, z1, z2, z3, z4, z5, z6⟩, zf⟩ := own7 O4.out (show k < pn by omega)
      go_wp2
      go_returns
      obtain ⟨qs, hq⟩ := own_put O4.out (k * 7) (x4)
      exact ⟨_, q4, rfl, ⟨_, pn, c1, qs, rfl, hq, by omega⟩, D4.out.far (by simp; omega) _, by omega, by omega, gr_set G4.out (.inr (by simp; omega)) _⟩
    have n2 : (x3 == 2) = false := by simpa using d2
    have d3 : x3 = 3 ∨ ¬ x3 = 3 := Decidable.em _
    rcases d3 with d3 | d3
    · subst d3
      (go_wp2_with fail); (go_at_call 14; refine (pick_c g _ _ A n c xs _ D3.out (by omega)).mono ?_; rintro e w4 ⟨_, q4, rfl, ⟨x4, rfl, l4, u4⟩, d4, e4, f4, g4⟩; have O4 := Lib.hid (own_gr O3.out g4 hgl); have G4 := Lib.hid (gr_via G3.out g4); have D4 := Lib.hid d4; have hs4 := g4.size; clear d4 g4)
      have v4 := u4 (by omega)
      clear u4
      obtain ⟨⟨y0, y1, y2, y3, y4, y5, y6, z0, z1, z2, z3, z4, z5, z6⟩, zf⟩ := own7 O4.out (show k < pn by omega)
      have hw4 : IntKind.i64.wrap (x4 - 1) = x4 - 1 := IntWalk.i64_in _ (by omega)
      go_wp2
      go_returns
      obtain ⟨qs, hq⟩ := own_put O4.out (k * 7 + 1) (x4 - 1)
      exact ⟨_, q4, rfl, ⟨_, pn, c1, qs, rfl, hq, by omega⟩, D4.out.far (by simp; omega) _, by omega, by omega, gr_set G4.out (.inr (by simp; omega)) _⟩
    have n3 : (x3 == 3) = false := by simpa using d3
    have d4 : x3 = 4 ∨ ¬ x3 = 4 := Decidable.em _
    rcases d4 with d4 | d4
    · subst d4
      have hE := Lib.hid (Blk.new w3 3 (ints [-1, 4294967296, 3]))
      (go_wp2_with fail); (go_at_call 14; refine (pick_c g _ _ A n c xs _ (D3.out.upto (by go_grown)) (by omega)).mono ?_; rintro e w4 ⟨_, q4, rfl, ⟨x4, rfl, l4, u4⟩, d4, e4, f4, g4⟩; have E4 := Lib.hid (hE.out.other g4 (by simp; omega)); have O4 := Lib.hid (own_gr (O3.out.alloc _) g4 hgl); have G4 := Lib.hid (gr_via (gr_alloc G3.out _) g4); have D4 := Lib.hid d4; have hs4 := g4.size; (try simp at hs4); clear d4 g4)
      have v4 := u4 (by omega)
      clear u4
      obtain ⟨y, hy, _⟩ := lit_atG [-1, 4294967296, 3] x4 l4 (by simp; omega)
      have e4c := E4.out.cell hy
      obtain ⟨⟨y0, y1, y2, y3, y4, y5, y6, z0, z1, z2, z3, z4, z5, z6⟩, zf⟩ := own7 O4.out (show k < pn by omega)
      clear hy
      go_wp2
      go_returns
      obtain ⟨qs, hq⟩ := own_put O4.out (k * 7 + 4) y
      exact ⟨_, q4, rfl, ⟨_, pn, c1, qs, rfl, hq, by omega⟩, D4.out.far (by simp; omega) _, by omega, by omega, gr_set G4.out (.inr (by simp; omega)) _⟩
    have n4 : (x3 == 4) = false := by simpa using d4
    go_wp2_with fail
    go_loopg [5] (121 - pn) (fun gk s wr => ∃ (m : Nat) (S : Option Addr) (cs : Nat) (qs : List Pt), m + gk = 121 ∧ 1 ≤ m ∧ s = .slice S m cs ∧ Hid (wr.ownsRow w.heap.size 29 7 (.slice S m cs) m (pts qs)) ∧ Hid (Dr wr g 51 q3 A n c xs) ∧ Hid (w.grownBy wr (some g)))
    case atStart => exact ⟨pn, _, c1, ps, by omega, by omega, rfl, O3, D3, G3⟩
    case round =>
      obtain ⟨m, S, cs, qs, hgk, hm1, rfl, HO, HD, HG⟩ := hrel
      have hsz := HG.out.size
      by_cases hk : gk = 0
      · subst hk
        go_wp2
        go_returns
        exact ⟨_, q3, rfl, ⟨S, m, cs, qs, rfl, HO.out, by omega⟩, HD.out, by omega, by omega, HG.out⟩
      · obtain ⟨gk, rfl⟩ : ∃ j, gk = j + 1 := ⟨gk - 1, by omega⟩
        obtain ⟨b, off, pt, rfl, hb, hp0, hpl, z0, z1, z2, z3, z4, z5, z6⟩ := (Rd.of_own HO.out).pt (show 0 < m by omega)
        simp only [Nat.zero_mul, Nat.add_zero] at z0 z1 z2 z3 z4 z5 z6
        clear hp0 hpl
        go_wp2_with (at_builtin; refine wpList_append_lies _ rfl _ _ 23 rfl w.heap.size 29 i0 _ 7 56 Try.underlying23 hi0 hz0 hz1 hz2 rfl (by omega) (.slice (some ⟨b, off, none⟩) m cs) m (pts qs) rfl (HO.out.alloc _) ⟨wr.heap.size, 0, none⟩ 1 1 (Pt.cells pt) rfl rfl (seven_cells wr 29 wr.heap.size pt rfl) (by simp [Pt.cells, Value.oneCell']) (by omega) (by unfold maxLen; omega) (by omega) (by simp; omega) _ rfl ?_; intro gg capg w6 hown6 hgr6 hat6 hlt6)
        have O6 := Lib.hid hown6
        rw [← pts_add] at O6
        have D6 := Lib.hid ((HD.out.upto (Below.alloc (Below.refl _ _) (Nat.le_refl _) _)).other hgr6 (fun b e => by have := (HO.out.lt b e).1; omega))
        have G6 := Lib.hid (gr_grown (gr_alloc HG.out _) hgr6 (fun b e => .inr (by have := (HO.out.lt b e).1; omega)))
        clear hown6 hgr6 hat6
        go_roundg gk
        case measure => omega
        case rel =>
          go_light
          exact ⟨m + 1, _, capg, qs ++ [pt], by omega, by omega, rfl, O6, D6, G6⟩
end Go.Proofs.Ytljgaepgblakhaa
