/- DrawPolicyWrite, DrawGraphMake, DrawPolicyUses: a drawn policy alone. Conditions: each contract's own. -/
import Derived.Test.YtljgaepgblakhaaDoorJ1d4e7f311b
namespace Go.Proofs.YtljgaepgblakhaaDoor
set_option linter.unusedSimpArgs false
open Go.RowKit
set_option linter.unusedVariables false
set_option linter.unnecessarySimpa false
set_option maxRecDepth 20000
/-- The call returns a drawn policy in memory of its own. -/
def RetDP (ER ET : Nat) (w : World) (e : Ending) (w' : World) : Prop :=
  ∃ (PA : Option Addr) (pn pc : Nat) (qs : List (Rl × Value)) (pe : Int), e = .returned (.agg #[.slice PA pn pc, .int .i64 pe]) ∧
    OP w' w.heap.size w'.heap.size ER ET PA pn pc qs ∧ pn ≤ 9 ∧ (∀ q ∈ qs, q.1.ts.length ≤ 8) ∧ Below w.heap.size w w'
set_option maxHeartbeats 1600000 in
set_option maxRecDepth 100000 in
theorem drawPolicyWrite_c (A : Option Addr) (n c : Nat) (xs : List Int) (w : World) (hr : Rd w w.heap.size 1 A n (u8s xs)) (hx : ∀ x ∈ xs, 0 ≤ x ∧ x ≤ 255) (hc : n ≤ c) (hc2 : c ≤ 9223372036854775807) :
    Calls Tryd.prog 101 #[.slice A n c] w (RetDP 35 83 w) := by
  have HR := Lib.hid hr
  have HX := Lib.hid hx
  have HB1 := Lib.hid (Blk.new w 25 [.slice none 0 0, .int .i64 0])
  clear hr hx
  go_enter Tryd.func101, Tryd.ntmps101
  (go_wp2_with fail); (go_at_call 61; refine (l1Open_c A n c xs _ (HR.out.upB (by go_grown) (by go_size)) HX.out hc hc2).mono ?_; rintro e w1 ⟨n1, c1, xs1, rfl, d1, b1, z1⟩; simp only [World.size_alloc] at d1 z1 b1; have D1 := Lib.hid d1; have B1 := Lib.hid ((show Below w.heap.size w (w.alloc (.cells #[.slice none 0 0, .int .i64 0] 25)) by go_grown).trans (b1.mono (by omega))); have R1 := Lib.hid (HB1.out.below b1 (by omega)); clear d1 b1 HB1)
  obtain ⟨g, hg⟩ : ∃ g, g = w.heap.size + 1 := ⟨_, rfl⟩
  rw [← hg] at D1 z1
  simp only [World.size_alloc, ← hg]
  have hgl : w.heap.size < g := by omega
  clear hg
  (go_wp2_with fail); (go_at_call 63; refine (pick_c g _ _ A n1 c1 xs1 _ D1.out (by omega)).mono ?_; rintro e w2 ⟨_, q2, rfl, ⟨x2, rfl, l2, u2⟩, d2, e2, f2, g2⟩; have R2 := Lib.hid (R1.out.other g2 (by simp <;> omega)); have D2 := Lib.hid d2; have G2 := Lib.hid g2; have hs2 := g2.size; clear d2 g2 u2 R1 D1)
  go_wp2_with fail
  · go_at_call 82
    refine (drawPolicy_c g _ A n1 c1 xs1 8 4 _ D2.out (by omega) (by omega) (by omega)).mono ?_
    rintro _ w3 ⟨_, q3, rfl, ⟨A3, n3, c3, qs3, y3, rfl, o3, hn3, hl3⟩, d3, e3, f3, g3⟩
    have R3 := Lib.hid (R2.out.other g3 (by simp <;> omega))
    have O3 := Lib.hid o3
    have L3 := Lib.hid hl3
    have G3 := Lib.hid (gr_via G2.out g3)
    have hs3 := g3.size
    clear d3 g3 o3 hl3
    have r0 := R3.out.cell (i := 0) rfl
    have r1 := R3.out.cell (i := 1) rfl
    have rf := R3.out.free
    go_wp2
    refine bodyPost_ret (v := .agg #[.slice A3 n3 c3, .int .i64 y3]) (by simp [results, Tryd.results101, go_sem, r0, r1]) rfl ?_
    go_light
    have hb := B1.out.trans (gr_below G3.out (by omega) (by have := B1.out.size; omega))
    exact ⟨A3, n3, c3, qs3, y3, rfl, (((O3.out.set_ (g := w.heap.size) (o := 0) (.inl (by omega)) _).set_ (g := w.heap.size) (o := 1) (.inl (by omega)) _)).wide (by omega) (by simp), by omega, ls_more L3.out (by omega), (hb.setCell (p := ⟨w.heap.size, 0, none⟩) (by simp) _).setCell (p := ⟨w.heap.size, 1, none⟩) (by simp) _⟩
  · go_at_call 62
    refine (anyPolicy_c g _ A n1 c1 xs1 _ D2.out (by omega)).mono ?_
    rintro _ w3 ⟨_, q3, rfl, ⟨A3, n3, c3, qs3, y3, rfl, o3, hn3, hl3⟩, d3, e3, f3, g3⟩
    have R3 := Lib.hid (R2.out.other g3 (by simp <;> omega))
    have O3 := Lib.hid o3
    have L3 := Lib.hid hl3
    have G3 := Lib.hid (gr_via G2.out g3)
    have hs3 := g3.size
    clear d3 g3 o3 hl3
    have r0 := R3.out.cell (i := 0) rfl
    have r1 := R3.out.cell (i := 1) rfl
    have rf := R3.out.free
    go_wp2
    refine bodyPost_ret (v := .agg #[.slice A3 n3 c3, .int .i64 y3]) (by simp [results, Tryd.results101, go_sem, r0, r1]) rfl ?_
    go_light
    have hb := B1.out.trans (gr_below G3.out (by omega) (by have := B1.out.size; omega))
    exact ⟨A3, n3, c3, qs3, y3, rfl, (((O3.out.set_ (g := w.heap.size) (o := 0) (.inl (by omega)) _).set_ (g := w.heap.size) (o := 1) (.inl (by omega)) _)).wide (by omega) (by simp), by omega, ls_more L3.out (by omega), (hb.setCell (p := ⟨w.heap.size, 0, none⟩) (by simp) _).setCell (p := ⟨w.heap.size, 1, none⟩) (by simp) _⟩
set_option maxHeartbeats 1600000 in
set_option maxRecDepth 100000 in
theorem drawPolicyUses_c (A : Option Addr) (n c : Nat) (xs : List Int) (w : World) (hr : Rd w w.heap.size 1 A n (u8s xs)) (hx : ∀ x ∈ xs, 0 ≤ x ∧ x ≤ 255) (hc : n ≤ c) (hc2 : c ≤ 9223372036854775807) :
    Calls Tryd.prog 32 #[.slice A n c] w (RetDP 35 83 w) := by
  have HR := Lib.hid hr
  have HX := Lib.hid hx
  have HB1 := Lib.hid (Blk.new w 25 [.slice none 0 0, .int .i64 0])
  clear hr hx
  go_enter Tryd.func32, Tryd.ntmps32
  (go_wp2_with fail); (go_at_call 61; refine (l1Open_c A n c xs _ (HR.out.upB (by go_grown) (by go_size)) HX.out hc hc2).mono ?_; rintro e w1 ⟨n1, c1, xs1, rfl, d1, b1, z1⟩; simp only [World.size_alloc] at d1 z1 b1; have D1 := Lib.hid d1; have B1 := Lib.hid ((show Below w.heap.size w (w.alloc (.cells #[.slice none 0 0, .int .i64 0] 25)) by go_grown).trans (b1.mono (by omega))); have R1 := Lib.hid (HB1.out.below b1 (by omega)); clear d1 b1 HB1)
  obtain ⟨g, hg⟩ : ∃ g, g = w.heap.size + 1 := ⟨_, rfl⟩
  rw [← hg] at D1 z1
  simp only [World.size_alloc, ← hg]
  have hgl : w.heap.size < g := by omega
  clear hg
  (go_wp2_with fail); (go_at_call 62; refine (anyPolicy_c g _ A n1 c1 xs1 _ D1.out (by omega)).mono ?_; rintro e w3 ⟨_, q3, rfl, ⟨A3, n3, c3, qs3, y3, rfl, o3, hn3, hl3⟩, d3, e3, f3, g3⟩; have R3 := Lib.hid (R1.out.other g3 (by simp <;> omega)); have O3 := Lib.hid o3; have L3 := Lib.hid hl3; have G3 := Lib.hid g3; have hs3 := g3.size; clear d3 g3 o3 hl3)
  have r0 := R3.out.cell (i := 0) rfl
  have r1 := R3.out.cell (i := 1) rfl
  have rf := R3.out.free
  go_wp2
  refine bodyPost_ret (v := .agg #[.slice A3 n3 c3, .int .i64 y3]) (by simp [results, Tryd.results32, go_sem, r0, r1]) rfl ?_
  go_light
  have hb := B1.out.trans (gr_below G3.out (by omega) (by have := B1.out.size; omega))
  exact ⟨A3, n3, c3, qs3, y3, rfl, (((O3.out.set_ (g := w.heap.size) (o := 0) (.inl (by omega)) _).set_ (g := w.heap.size) (o := 1) (.inl (by omega)) _)).wide (by omega) (by simp), by omega, ls_more L3.out (by omega), (hb.setCell (p := ⟨w.heap.size, 0, none⟩) (by simp) _).setCell (p := ⟨w.heap.size, 1, none⟩) (by simp) _⟩
set_option maxRecDepth 100000 in
theorem drawGraphMake_c (A : Option Addr) (n c : Nat) (xs : List Int) (w : World) (hr : Rd w w.heap.size 1 A n (u8s xs)) (hx : ∀ x ∈ xs, 0 ≤ x ∧ x ≤ 255) (hc : n ≤ c) (hc2 : c ≤ 9223372036854775807) :
    Calls Tryd.prog 52 #[.slice A n c] w (RetDP 35 83 w) := by
  have HR := Lib.hid hr
  have HX := Lib.hid hx
  have HB1 := Lib.hid (Blk.new w 25 [.slice none 0 0, .int .i64 0])
  clear hr hx
  go_enter Tryd.func52, Tryd.ntmps52
  (go_wp2_with fail); (go_at_call 101; refine (drawPolicyWrite_c A n c xs _ (HR.out.upB (by go_grown) (by go_size)) HX.out hc hc2).mono ?_; rintro e w1 ⟨A3, n3, c3, qs3, y3, rfl, o3, hn3, hl3, b1⟩; simp only [World.size_alloc] at o3; have O3 := Lib.hid o3; have L3 := Lib.hid hl3; have R3 := Lib.hid (HB1.out.up b1); have B1 := Lib.hid (below_via (w := w) (by go_grown) b1); have hs1 := b1.size; simp at hs1; clear o3 hl3 b1 HB1)
  have r0 := R3.out.cell (i := 0) rfl
  have r1 := R3.out.cell (i := 1) rfl
  have rf := R3.out.free
  go_wp2
  refine bodyPost_ret (v := .agg #[.slice A3 n3 c3, .int .i64 y3]) (by simp [results, Tryd.results52, go_sem, r0, r1]) rfl ?_
  go_light
  exact ⟨A3, n3, c3, qs3, y3, rfl, (((O3.out.set_ (g := w.heap.size) (o := 0) (.inl (by omega)) _).set_ (g := w.heap.size) (o := 1) (.inl (by omega)) _)).wide (by omega) (by simp), by omega, L3.out, (B1.out.setCell (p := ⟨w.heap.size, 0, none⟩) (by simp) _).setCell (p := ⟨w.heap.size, 1, none⟩) (by simp) _⟩
end Go.Proofs.YtljgaepgblakhaaDoor
