/- DrawPolicyMap, DrawPolicyOnly: a drawn policy, and numbers. Conditions: each contract's own. -/
import Derived.Test.YtljgaepgblakhaaDoorJFnPolicyOnly38
namespace Go.Proofs.YtljgaepgblakhaaDoor
set_option linter.unusedSimpArgs false
open Go.RowKit
set_option linter.unusedVariables false
set_option linter.unnecessarySimpa false
set_option maxRecDepth 20000
def RetDP2 (ER ET : Nat) (w : World) (e : Ending) (w' : World) : Prop :=
  ∃ (PA : Option Addr) (pn pc : Nat) (qs : List (Rl × Value)) (pe a b : Int), e = .returned (.tuple #[.agg #[.slice PA pn pc, .int .i64 pe], .int .i64 a, .int .i64 b]) ∧
    OP w' w.heap.size w'.heap.size ER ET PA pn pc qs ∧ pn ≤ 9 ∧ (∀ q ∈ qs, q.1.ts.length ≤ 8) ∧ Below w.heap.size w w'
def RetDP3 (ER ET : Nat) (w : World) (e : Ending) (w' : World) : Prop :=
  ∃ (PA : Option Addr) (pn pc : Nat) (qs : List (Rl × Value)) (pe a b d : Int), e = .returned (.tuple #[.agg #[.slice PA pn pc, .int .i64 pe], .int .i64 a, .int .i64 b, .int .i64 d]) ∧
    OP w' w.heap.size w'.heap.size ER ET PA pn pc qs ∧ pn ≤ 9 ∧ (∀ q ∈ qs, q.1.ts.length ≤ 8) ∧ Below w.heap.size w w'
theorem lit_get7 {l : List Value} {i : Nat} {v : Value} (h : l[i]? = some v) : ∀ hi : i < l.length, l[i]'hi = v := fun hi => by rw [List.getElem?_eq_getElem hi] at h; exact Option.some.inj h
theorem lit_at7 (l : List Int) (i : Int) (h0 : 0 ≤ i) (hi : i < l.length) : ∃ x, (ints l)[i.toNat]? = some (.int .i64 x) ∧ x ∈ l := by
  obtain ⟨k, rfl⟩ := Int.eq_ofNat_of_zero_le h0
  have : k < l.length := by omega
  exact ⟨l[k], by simp [ints, this], List.getElem_mem _⟩
set_option maxHeartbeats 3200000 in
set_option maxRecDepth 100000 in
theorem drawPolicyMap_c (A : Option Addr) (n c : Nat) (xs : List Int) (w : World) (hr : Rd w w.heap.size 1 A n (u8s xs)) (hx : ∀ x ∈ xs, 0 ≤ x ∧ x ≤ 255) (hc : n ≤ c) (hc2 : c ≤ 9223372036854775807) :
    Calls Tryd.prog 25 #[.slice A n c] w (RetDP2 35 83 w) := by
  have HR := Lib.hid hr
  have HX := Lib.hid hx
  have HB1 := Lib.hid (Blk.new w 25 [.slice none 0 0, .int .i64 0])
  clear hr hx
  go_enter Tryd.func25, Tryd.ntmps25
  (go_wp2_with fail); (go_at_call 61; refine (l1Open_c A n c xs _ (HR.out.upB (by go_grown) (by go_size)) HX.out hc hc2).mono ?_; rintro e w1 ⟨n1, c1, xs1, rfl, d1, b1, z1⟩; simp only [World.size_alloc] at d1 z1 b1; have D1 := Lib.hid d1; have B1 := Lib.hid ((show Below w.heap.size w (w.alloc (.cells #[.slice none 0 0, .int .i64 0] 25)) by go_grown).trans (b1.mono (by omega))); have R1 := Lib.hid (HB1.out.below b1 (by omega)); clear d1 b1 HB1)
  obtain ⟨g, hg⟩ : ∃ g, g = w.heap.size + 1 := ⟨_, rfl⟩
  rw [← hg] at D1 z1
  simp only [World.size_alloc, ← hg]
  have hgl : w.heap.size < g := by omega
  clear hg
  go_wp2_with fail
  go_region_law (first
    | (go_simp; (go_at_call_of 63 (Value.int IntKind.i64 4); refine (pick_c g _ _ A n1 c1 xs1 _ (D4.out.upto (by go_grown)) (by omega)).mono ?_; rintro e w5 ⟨_, q5, rfl, ⟨x5, rfl, l5, u5⟩, d5, e5, f5, g5⟩; have v5 := u5 (by omega); have hw5 : IntKind.i64.wrap (1 + x5) = 1 + x5 := IntWalk.i64_in _ (by omega); have R5 := Lib.hid ((R4.out.up (by go_grown)).other g5 (by simp <;> omega)); have O5 := Lib.hid ((O4.out.up (by go_grown)).gr g5 (by omega)); have r0 := R5.out.cell (i := 0) rfl; have r1 := R5.out.cell (i := 1) rfl; have rf := R5.out.free; (first | (have e5c := ((S34.out.up (by go_grown)).other g5 (by simp <;> omega)).cell HY4.out) | (have e5c := ((Blk.new w4 3 (ints [1 + x3, 0, 5])).other g5 (by simp <;> omega)).cell HY4.out) | skip); have hs5 := g5.size; (try simp at hs5); have zz5 : w.heap.size < w5.heap.size := (by omega); have nn5 : w.heap.size ≠ w5.heap.size := (by omega); have nn4 : w.heap.size ≠ w4.heap.size := (by omega); have nn3 : w.heap.size ≠ w3.heap.size := (by omega); have G5 := Lib.hid (gr_via (w := w1) (by (repeat' (first | exact gr_refl _ _ | (with_reducible assumption) | exact Hid.out (by assumption) | refine gr_drew ?_ | refine gr_drewN ?_ _ | refine gr_alloc ?_ _ | refine gr_set ?_ ?_ _ | omega | (simp; omega)))) g5); clear d5 g5 u5))
    | (go_simp; (go_at_call_of 63 (Value.int IntKind.i64 10); refine (pick_c g _ _ A n1 c1 xs1 _ (D3.out.upto (by go_grown)) (by omega)).mono ?_; rintro e w4 ⟨_, q4, rfl, ⟨x4, rfl, l4, u4⟩, d4, e4, f4, g4⟩; have v4 := u4 (by omega); have hw4 : IntKind.i64.wrap (x4.tdiv 8) = x4 / 8 := (by rw [Int.tdiv_eq_ediv_of_nonneg l4]; exact IntWalk.i64_in _ (by omega)); have j40 : 0 ≤ x4 / 8 := (by omega); have j41 : x4 / 8 < 3 := (by omega); have R4 := Lib.hid ((R3.out.up (by go_grown)).other g4 (by simp <;> omega)); have O4 := Lib.hid ((O3.out.up (by go_grown)).gr g4 (by omega)); obtain ⟨y, hy, hym⟩ := lit_at7 [1 + x3, 0, 5] (x4 / 8) (by omega) (by simp; omega); have hget : ∀ hi : (x4 / 8).toNat < [Value.int .i64 (1 + x3), Value.int .i64 0, Value.int .i64 5].length, [Value.int .i64 (1 + x3), Value.int .i64 0, Value.int .i64 5][(x4 / 8).toNat]'hi = .int .i64 y := lit_get7 hy; have HY4 := Lib.hid hy; (try have S34 := Lib.hid ((Blk.new w3 3 (ints [1 + x3, 0, 5])).other g4 (by simp <;> omega))); (try have e4c := S34.out.cell hy); have hs4 := g4.size; (try simp at hs4); have G4 := Lib.hid (gr_via (w := w1) (by (repeat' (first | exact gr_refl _ _ | (with_reducible assumption) | exact Hid.out (by assumption) | refine gr_drew ?_ | refine gr_drewN ?_ _ | refine gr_alloc ?_ _ | refine gr_set ?_ ?_ _ | omega | (simp; omega)))) g4); have D4 := Lib.hid d4; clear d4 g4 u4 hy hym))
    | (go_simp; (go_at_call_of 63 (Value.int IntKind.i64 4); refine (pick_c g _ _ A n1 c1 xs1 _ (D2.out.upto (by go_grown)) (by omega)).mono ?_; rintro e w3 ⟨_, q3, rfl, ⟨x3, rfl, l3, u3⟩, d3, e3, f3, g3⟩; have v3 := u3 (by omega); have hw3 : IntKind.i64.wrap (1 + x3) = 1 + x3 := IntWalk.i64_in _ (by omega); have R3 := Lib.hid ((R2.out.up (by go_grown)).other g3 (by simp <;> omega)); have O3 := Lib.hid ((O2.out.up (by go_grown)).gr g3 (by omega)); have hs3 := g3.size; (try simp at hs3); have G3 := Lib.hid (gr_via (w := w1) (by (repeat' (first | exact gr_refl _ _ | (with_reducible assumption) | exact Hid.out (by assumption) | refine gr_drew ?_ | refine gr_drewN ?_ _ | refine gr_alloc ?_ _ | refine gr_set ?_ ?_ _ | omega | (simp; omega)))) g3); have D3 := Lib.hid d3; clear d3 g3 u3))
    | (go_simp; (go_at_call 62; refine (anyPolicy_c g _ A n1 c1 xs1 _ (D1.out.upto (by go_grown)) (by omega)).mono ?_; rintro e w2 ⟨_, q2, rfl, ⟨A2, n2, c2, qs, y2, rfl, o2, hn2, hl2⟩, d2, e2, f2, g2⟩; (try simp only [heap_drew] at o2); have R2 := Lib.hid ((R1.out.up (by go_grown)).other g2 (by simp <;> omega)); have O2 := Lib.hid o2; have L2 := Lib.hid hl2; have D2 := Lib.hid d2; have hs2 := g2.size; (try simp at hs2); have G2 := Lib.hid (gr_via (w := w1) (by (repeat' (first | exact gr_refl _ _ | (with_reducible assumption) | exact Hid.out (by assumption) | refine gr_drew ?_ | refine gr_drewN ?_ _ | refine gr_alloc ?_ _ | refine gr_set ?_ ?_ _ | omega | (simp; omega)))) g2); clear d2 g2 o2 hl2)))
  all_goals
    go_wp2
    refine bodyPost_ret (v := .tuple #[.agg #[.slice A2 n2 c2, .int .i64 y2], .int .i64 y, .int .i64 (1 + x5)]) (by simp [results, Tryd.results25, go_sem, r0, r1, zz5, nn5, nn4, nn3]) rfl ?_
    go_light
    have hb := B1.out.trans (gr_below G5.out (by omega) (by have := B1.out.size; omega))
    refine ⟨A2, n2, c2, qs, y2, y, 1 + x5, rfl, ?_, by omega, ls_more L2.out (by omega), ?_⟩
    · refine OP.wide (lo := w1.heap.size) (hi := w2.heap.size) ?_ (by have := B1.out.size; omega) (by (try simp) <;> omega)
      repeat (first | exact O5.out | refine OP.set_ ?_ (.inl (by omega)) _ | refine OP.up ?_ (Below.alloc (Below.refl _ _) (Nat.le_refl _) _))
    · repeat (first | exact hb | refine Below.setCell ?_ (by simp) _ | refine Below.alloc ?_ (by (try simp) <;> omega) _)
set_option maxHeartbeats 3200000 in
set_option maxRecDepth 100000 in
theorem drawPolicyOnly_c (A : Option Addr) (n c : Nat) (xs : List Int) (w : World) (hr : Rd w w.heap.size 1 A n (u8s xs)) (hx : ∀ x ∈ xs, 0 ≤ x ∧ x ≤ 255) (hc : n ≤ c) (hc2 : c ≤ 9223372036854775807) :
    Calls Tryd.prog 19 #[.slice A n c] w (RetDP3 35 83 w) := by
  have HR := Lib.hid hr
  have HX := Lib.hid hx
  have HB1 := Lib.hid (Blk.new w 25 [.slice none 0 0, .int .i64 0])
  clear hr hx
  go_enter Tryd.func19, Tryd.ntmps19
  (go_wp2_with fail); (go_at_call 61; refine (l1Open_c A n c xs _ (HR.out.upB (by go_grown) (by go_size)) HX.out hc hc2).mono ?_; rintro e w0 ⟨n1, c1, xs1, rfl, d0, b0, z0⟩; simp only [World.size_alloc] at d0 z0 b0; have D0 := Lib.hid d0; have B0 := Lib.hid ((show Below w.heap.size w (w.alloc (.cells #[.slice none 0 0, .int .i64 0] 25)) by go_grown).trans (b0.mono (by omega))); have R0 := Lib.hid (HB1.out.below b0 (by omega)); clear d0 b0 HB1)
  obtain ⟨g, hg⟩ : ∃ g, g = w.heap.size + 1 := ⟨_, rfl⟩
  rw [← hg] at D0 z0
  simp only [World.size_alloc, ← hg]
  have hgl : w.heap.size < g := by omega
  clear hg
  (go_wp2_with fail); (go_at_call 63; refine (pick_c g _ _ A n1 c1 xs1 _ D0.out (by omega)).mono ?_; rintro e wa ⟨_, qa, rfl, ⟨xa, rfl, la, ua⟩, da, ea, fa, ga⟩; have va := ua (by omega); have Ra := Lib.hid (R0.out.other ga (by simp <;> omega)); have Da := Lib.hid da; have Ga := Lib.hid ga; have hsa := ga.size; clear da ga ua R0 D0)
  have hSa : Hid (Blk (wa.alloc (.cells #[.int .i64 0, .int .i64 xa, .int .i64 4294967295, .int .i64 (-1)] 3)) wa.heap.size 3 (ints [0, xa, 4294967295, -1])) := Lib.hid (Blk.new wa 3 (ints [0, xa, 4294967295, -1]))
  (go_wp2_with fail); (go_at_call 63; refine (pick_c g _ _ A n1 c1 xs1 _ (Da.out.upto (by go_grown)) (by omega)).mono ?_; rintro e w1 ⟨_, qb, rfl, ⟨xb, rfl, lb, ub⟩, d1, eb, fb, g1⟩; have vb := ub (by omega); have R1 := Lib.hid ((Ra.out.alloc _).other g1 (by simp <;> omega)); have S1 := Lib.hid (hSa.out.other g1 (by simp <;> omega)); have D1 := Lib.hid d1; have Gb := Lib.hid (gr_via (gr_alloc Ga.out _) g1); have hs1 := g1.size; (try simp at hs1); clear d1 g1 ub Ra Da hSa)
  obtain ⟨low, hlow, hlm⟩ := lit_at7 [0, xa, 4294967295, -1] xb (by omega) (by simp; omega)
  have clow := S1.out.cell hlow
  have hl01 : -1 ≤ low ∧ low ≤ 4294967295 := by
    simp only [List.mem_cons, List.not_mem_nil, or_false] at hlm
    omega
  obtain ⟨hlow0, hlow1⟩ := hl01
  have B1 := Lib.hid (B0.out.trans (gr_below Gb.out (by omega) (by have := B0.out.size; omega)))
  clear hlow hlm S1
  have hwl : IntKind.i64.wrap (low - 1) = low - 1 := IntWalk.i64_in _ (by omega)
  go_wp2_with fail
  go_region_law (first
    | (go_simp; (go_at_call_of 63 (Value.int IntKind.i64 6); refine (pick_c g _ _ A n1 c1 xs1 _ (D4.out.upto (by go_grown)) (by omega)).mono ?_; rintro e w5 ⟨_, q5, rfl, ⟨x5, rfl, l5, u5⟩, d5, e5, f5, g5⟩; have v5 := u5 (by omega); have R5 := Lib.hid ((R4.out.up (by go_grown)).other g5 (by simp <;> omega)); have O5 := Lib.hid ((O4.out.up (by go_grown)).gr g5 (by omega)); have r0 := R5.out.cell (i := 0) rfl; have r1 := R5.out.cell (i := 1) rfl; have rf := R5.out.free; (first | (have e5c := ((S34.out.up (by go_grown)).other g5 (by simp <;> omega)).cell HY4.out) | (have e5c := ((Blk.new w4 3 (ints [low, low + x3, 4294967295, low - 1])).other g5 (by simp <;> omega)).cell HY4.out) | skip); have hs5 := g5.size; (try simp at hs5); have zz5 : w.heap.size < w5.heap.size := (by omega); have nn5 : w.heap.size ≠ w5.heap.size := (by omega); have nn4 : w.heap.size ≠ w4.heap.size := (by omega); have nn3 : w.heap.size ≠ w3.heap.size := (by omega); have G5 := Lib.hid (gr_via (w := w1) (by (repeat' (first | exact gr_refl _ _ | (with_reducible assumption) | exact Hid.out (by assumption) | refine gr_drew ?_ | refine gr_drewN ?_ _ | refine gr_alloc ?_ _ | refine gr_set ?_ ?_ _ | omega | (simp; omega)))) g5); clear d5 g5 u5))
    | (go_simp; (go_at_call_of 63 (Value.int IntKind.i64 4); refine (pick_c g _ _ A n1 c1 xs1 _ (D3.out.upto (by go_grown)) (by omega)).mono ?_; rintro e w4 ⟨_, q4, rfl, ⟨x4, rfl, l4, u4⟩, d4, e4, f4, g4⟩; have v4 := u4 (by omega); have R4 := Lib.hid ((R3.out.up (by go_grown)).other g4 (by simp <;> omega)); have O4 := Lib.hid ((O3.out.up (by go_grown)).gr g4 (by omega)); obtain ⟨y, hy, hym⟩ := lit_at7 [low, low + x3, 4294967295, low - 1] (x4) (by omega) (by simp; omega); have hget : ∀ hi : (x4).toNat < [Value.int .i64 low, Value.int .i64 (low + x3), Value.int .i64 4294967295, Value.int .i64 (low - 1)].length, [Value.int .i64 low, Value.int .i64 (low + x3), Value.int .i64 4294967295, Value.int .i64 (low - 1)][(x4).toNat]'hi = .int .i64 y := lit_get7 hy; have HY4 := Lib.hid hy; (try have S34 := Lib.hid ((Blk.new w3 3 (ints [low, low + x3, 4294967295, low - 1])).other g4 (by simp <;> omega))); (try have e4c := S34.out.cell hy); have hs4 := g4.size; (try simp at hs4); have G4 := Lib.hid (gr_via (w := w1) (by (repeat' (first | exact gr_refl _ _ | (with_reducible assumption) | exact Hid.out (by assumption) | refine gr_drew ?_ | refine gr_drewN ?_ _ | refine gr_alloc ?_ _ | refine gr_set ?_ ?_ _ | omega | (simp; omega)))) g4); have D4 := Lib.hid d4; clear d4 g4 u4 hy hym))
    | (go_simp; (go_at_call_of 63 (Value.int IntKind.i64 6); refine (pick_c g _ _ A n1 c1 xs1 _ (D2.out.upto (by go_grown)) (by omega)).mono ?_; rintro e w3 ⟨_, q3, rfl, ⟨x3, rfl, l3, u3⟩, d3, e3, f3, g3⟩; have v3 := u3 (by omega); have hw3 : IntKind.i64.wrap (low + x3) = low + x3 := IntWalk.i64_in _ (by omega); have R3 := Lib.hid ((R2.out.up (by go_grown)).other g3 (by simp <;> omega)); have O3 := Lib.hid ((O2.out.up (by go_grown)).gr g3 (by omega)); have hs3 := g3.size; (try simp at hs3); have G3 := Lib.hid (gr_via (w := w1) (by (repeat' (first | exact gr_refl _ _ | (with_reducible assumption) | exact Hid.out (by assumption) | refine gr_drew ?_ | refine gr_drewN ?_ _ | refine gr_alloc ?_ _ | refine gr_set ?_ ?_ _ | omega | (simp; omega)))) g3); have D3 := Lib.hid d3; clear d3 g3 u3))
    | (go_simp; (go_at_call 62; refine (anyPolicy_c g _ A n1 c1 xs1 _ (D1.out.upto (by go_grown)) (by omega)).mono ?_; rintro e w2 ⟨_, q2, rfl, ⟨A2, n2, c2, qs, y2, rfl, o2, hn2, hl2⟩, d2, e2, f2, g2⟩; (try simp only [heap_drew] at o2); have R2 := Lib.hid ((R1.out.up (by go_grown)).other g2 (by simp <;> omega)); have O2 := Lib.hid o2; have L2 := Lib.hid hl2; have D2 := Lib.hid d2; have hs2 := g2.size; (try simp at hs2); have G2 := Lib.hid (gr_via (w := w1) (by (repeat' (first | exact gr_refl _ _ | (with_reducible assumption) | exact Hid.out (by assumption) | refine gr_drew ?_ | refine gr_drewN ?_ _ | refine gr_alloc ?_ _ | refine gr_set ?_ ?_ _ | omega | (simp; omega)))) g2); clear d2 g2 o2 hl2)))
  all_goals
    go_wp2
    refine bodyPost_ret (v := .tuple #[.agg #[.slice A2 n2 c2, .int .i64 y2], .int .i64 low, .int .i64 y, .int .i64 x5]) (by simp [results, Tryd.results19, go_sem, r0, r1, zz5, nn5, nn4, nn3]) rfl ?_
    go_light
    have hb := B1.out.trans (gr_below G5.out (by omega) (by have := B1.out.size; omega))
    refine ⟨A2, n2, c2, qs, y2, low, y, x5, rfl, ?_, by omega, ls_more L2.out (by omega), ?_⟩
    · refine OP.wide (lo := w1.heap.size) (hi := w2.heap.size) ?_ (by have := B1.out.size; omega) (by (try simp) <;> omega)
      repeat (first | exact O5.out | refine OP.set_ ?_ (.inl (by omega)) _ | refine OP.up ?_ (Below.alloc (Below.refl _ _) (Nat.le_refl _) _))
    · repeat (first | exact hb | refine Below.setCell ?_ (by simp) _ | refine Below.alloc ?_ (by (try simp) <;> omega) _)
end Go.Proofs.YtljgaepgblakhaaDoor
