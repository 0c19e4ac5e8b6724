/- DrawGraphTrim, DrawGraphRun. Conditions: each contract's own. -/
import Derived.Test.YtljgaepgblakhaaJa6e01799b6
import Derived.Test.YtljgaepgblakhaaDraw4
import Derived.Test.YtljgaepgblakhaaDraw5
namespace Go.Proofs.Ytljgaepgblakhaa
set_option linter.unusedSimpArgs false
open Go.RowKit
set_option linter.unusedVariables false
set_option linter.unnecessarySimpa false
set_option maxRecDepth 20000
set_option maxHeartbeats 1600000 in
set_option maxRecDepth 100000 in
/-- A drawn graph, of any make. -/
theorem drawGraphTrim_c (A : Option Addr) (n c : Nat) (xs : List Int) (w : World) (hr : Rd w w.heap.size 1 A n (u8s xs)) (hx : ∀ x ∈ xs, 0 ≤ x ∧ x ≤ 255) (hc : n ≤ c) (hc2 : c ≤ 9223372036854775807) :
    Calls Try.prog 4 #[.slice A n c] w (fun e w' => ∃ (PA : Option Addr) (pn pc : Nat) (ps : List Pt), e = .returned (.slice PA pn pc) ∧ w'.ownsRow w.heap.size 29 7 (.slice PA pn pc) pn (pts ps) ∧ pn ≤ 121 ∧ Below w.heap.size w w') := by
  have HR := Lib.hid hr
  have HX := Lib.hid hx
  clear hr hx
  go_enter Try.func4, Try.ntmps4
  (go_wp2_with fail); (go_at_call 12; refine (l1Open_c A n c xs _ (HR.out.upB (by go_grown) (by go_size)) HX.out hc hc2).mono ?_; rintro e w1 ⟨n1, c1, xs1, rfl, d1, b1, z1⟩; have D1 := Lib.hid d1; have B1 := Lib.hid b1; clear d1 b1)
  obtain ⟨g, hg⟩ : ∃ g, g = w.heap.size := ⟨_, rfl⟩
  rw [← hg] at D1 z1
  rw [← hg]
  have hgl : w.heap.size ≤ g := by omega
  clear hg
  (go_wp2_with fail); (go_at_call 13; refine (l11Graph_c g _ A n1 c1 xs1 _ D1.out (by omega)).mono ?_; rintro e w2 ⟨_, q2, rfl, ⟨A2, n2, c2, ps, rfl, o2, hn2⟩, d2, e2, f2, g2⟩; have O2 := Lib.hid o2; have D2 := Lib.hid d2; have G2 := Lib.hid g2; have hs2 := g2.size; clear o2 d2 g2)
  (go_wp2_with fail); (go_at_call 14; refine (pick_c g _ _ A n1 c1 xs1 _ D2.out (by omega)).mono ?_; rintro e w3 ⟨_, q3, rfl, ⟨x3, rfl, l3, u3⟩, d3, e3, f3, g3⟩; have O3 := Lib.hid (own_gr O2.out g3 (by omega)); have D3 := Lib.hid d3; have G3 := Lib.hid (gr_via G2.out g3); have hs3 := g3.size; clear d3 g3)
  have hs1 := B1.out.size
  by_cases h0 : x3 = 0
  · subst h0
    (go_wp2_with fail); (go_at_call 15; refine (bentGraph_c g _ A n1 c1 xs1 A2 n2 c2 ps _ D3.out (by omega) (Rd.of_own O3.out) hn2).mono ?_; rintro e w4 ⟨_, q4, rfl, ⟨A4, n4, c4, qs, rfl, o4, hn4⟩, d4, e4, f4, g4⟩; have O4 := Lib.hid o4; have G4 := Lib.hid (gr_via G3.out g4); have hs4 := g4.size; clear o4 d4 g4)
    go_wp2
    go_returns
    exact ⟨A4, n4, c4, qs, rfl, own_base O4.out (by omega), hn4, B1.out.trans (gr_below G4.out hgl (by omega))⟩
  · have k0 : (x3 == 0) = false := by simpa using h0
    go_wp2
    go_returns
    exact ⟨A2, n2, c2, ps, rfl, own_base O3.out (by omega), by omega, B1.out.trans (gr_below G3.out hgl (by omega))⟩
set_option maxHeartbeats 1600000 in
set_option maxRecDepth 100000 in
/-- A drawn graph and a call of any make; of the graph nothing is told. -/
theorem drawGraphRun_c (A : Option Addr) (n c : Nat) (xs : List Int) (w : World) (hr : Rd w w.heap.size 1 A n (u8s xs)) (hx : ∀ x ∈ xs, 0 ≤ x ∧ x ≤ 255) (hc : n ≤ c) (hc2 : c ≤ 9223372036854775807) :
    Calls Try.prog 10 #[.slice A n c] w (fun e w' => ∃ (v : Value) (num : Int) (CA : Option Addr) (cn cc : Nat) (zs : List Int), e = .returned (.tuple #[v, .agg #[.int .i64 num, .slice CA cn cc]]) ∧ Rd w' w'.heap.size 1 CA cn (ints zs) ∧ cn ≤ 5 ∧ Below w.heap.size w w') := by
  have HR := Lib.hid hr
  have HX := Lib.hid hx
  have HB1 := Lib.hid (Blk.new w 32 [.int .i64 0, .slice none 0 0])
  clear hr hx
  go_enter Try.func10, Try.ntmps10
  (go_wp2_with fail); (go_at_call 12; refine (l1Open_c A n c xs _ (HR.out.upB (by go_grown) (by go_size)) HX.out hc hc2).mono ?_; rintro e w1 ⟨n1, c1, xs1, rfl, d1, b1, z1⟩; simp only [World.size_alloc] at d1 z1 b1; have D1 := Lib.hid d1; have B1 := Lib.hid ((show Below w.heap.size w (w.alloc (.cells #[.int .i64 0, .slice none 0 0] 32)) by go_grown).trans (b1.mono (by omega))); have R1 := Lib.hid (HB1.out.below b1 (by omega)); clear d1 b1 HB1)
  obtain ⟨g, hg⟩ : ∃ g, g = w.heap.size + 1 := ⟨_, rfl⟩
  rw [← hg] at D1 z1
  simp only [World.size_alloc, ← hg]
  have hgl : w.heap.size < g := by omega
  clear hg
  (go_wp2_with fail); (go_at_call 13; refine (l11Graph_c g _ A n1 c1 xs1 _ D1.out (by omega)).mono ?_; rintro e w2 ⟨_, q2, rfl, ⟨A2, n2, c2, ps, rfl, o2, hn2⟩, d2, e2, f2, g2⟩; have O2 := Lib.hid o2; have D2 := Lib.hid d2; have G2 := Lib.hid g2; have R2 := Lib.hid (R1.out.other g2 (by simp <;> omega)); have hs2 := g2.size; clear o2 d2 g2)
  (go_wp2_with fail); (go_at_call 14; refine (pick_c g _ _ A n1 c1 xs1 _ D2.out (by omega)).mono ?_; rintro e w3 ⟨_, q3, rfl, ⟨x3, rfl, l3, u3⟩, d3, e3, f3, g3⟩; have O3 := Lib.hid (own_gr O2.out g3 (by omega)); have D3 := Lib.hid d3; have G3 := Lib.hid (gr_via G2.out g3); have R3 := Lib.hid (R2.out.other g3 (by simp <;> omega)); have hs3 := g3.size; clear d3 g3)
  have hs1 := B1.out.size
  by_cases h0 : x3 = 0
  · subst h0
    (go_wp2_with fail); (go_at_call 15; refine (bentGraph_c g _ A n1 c1 xs1 A2 n2 c2 ps _ D3.out (by omega) (Rd.of_own O3.out) hn2).mono ?_; rintro e w4 ⟨_, q4, rfl, ⟨A4, n4, c4, qs, rfl, o4, hn4⟩, d4, e4, f4, g4⟩; have R4 := Lib.hid (R3.out.other g4 (by simp <;> omega)); have D4 := Lib.hid d4; have G4 := Lib.hid (gr_via G3.out g4); have hs4 := g4.size; clear o4 d4 g4)
    (go_wp2_with fail); (go_at_call 20; refine (drawAnyCall_c g _ A n1 c1 xs1 _ D4.out (by omega)).mono ?_; rintro e w5 ⟨_, q5, rfl, ⟨num, CA, cn, cc, zs, rfl, oc, hcn⟩, d5, e5, f5, g5⟩; have R5 := Lib.hid (R4.out.other g5 (by simp <;> omega)); have OC := Lib.hid oc; have G5 := Lib.hid (gr_via G4.out g5); have hs5 := g5.size; clear oc d5 g5)
    have r0 := R5.out.cell (i := 0) rfl
    have r1 := R5.out.cell (i := 1) rfl
    have rf := R5.out.free
    go_wp2
    refine bodyPost_ret (v := .tuple #[.slice A4 n4 c4, .agg #[.int .i64 num, .slice CA cn cc]]) (by simp [results, Try.results10, go_sem, r0, r1]) rfl ?_
    go_light
    have hb := B1.out.trans (gr_below G5.out (by omega) (by omega))
    exact ⟨_, num, CA, cn, cc, zs, rfl, ((OC.out.far (p := ⟨w.heap.size, 0, none⟩) (by simp; omega) (.int .i64 num)).far (p := ⟨w.heap.size, 1, none⟩) (by simp; omega) (.slice CA cn cc)).rd, hcn, (hb.setCell (p := ⟨w.heap.size, 0, none⟩) (by simp) _).setCell (p := ⟨w.heap.size, 1, none⟩) (by simp) _⟩
  · have k0 : (x3 == 0) = false := by simpa using h0
    (go_wp2_with fail); (go_at_call 20; refine (drawAnyCall_c g _ A n1 c1 xs1 _ D3.out (by omega)).mono ?_; rintro e w5 ⟨_, q5, rfl, ⟨num, CA, cn, cc, zs, rfl, oc, hcn⟩, d5, e5, f5, g5⟩; have R5 := Lib.hid (R3.out.other g5 (by simp <;> omega)); have OC := Lib.hid oc; have G5 := Lib.hid (gr_via G3.out g5); have hs5 := g5.size; clear oc d5 g5)
    have r0 := R5.out.cell (i := 0) rfl
    have r1 := R5.out.cell (i := 1) rfl
    have rf := R5.out.free
    go_wp2
    refine bodyPost_ret (v := .tuple #[.slice A2 n2 c2, .agg #[.int .i64 num, .slice CA cn cc]]) (by simp [results, Try.results10, go_sem, r0, r1]) rfl ?_
    go_light
    have hb := B1.out.trans (gr_below G5.out (by omega) (by omega))
    exact ⟨_, num, CA, cn, cc, zs, rfl, ((OC.out.far (p := ⟨w.heap.size, 0, none⟩) (by simp; omega) (.int .i64 num)).far (p := ⟨w.heap.size, 1, none⟩) (by simp; omega) (.slice CA cn cc)).rd, hcn, (hb.setCell (p := ⟨w.heap.size, 0, none⟩) (by simp) _).setCell (p := ⟨w.heap.size, 1, none⟩) (by simp) _⟩
end Go.Proofs.Ytljgaepgblakhaa
