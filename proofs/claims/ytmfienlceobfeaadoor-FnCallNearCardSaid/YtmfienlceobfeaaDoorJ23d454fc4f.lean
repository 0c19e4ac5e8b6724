/- Parts of laws in one text. Conditions: each lemma's own. -/
import Derived.Test.YtmfienlceobfeaaDoorJ8f77c19a29
namespace Go.Proofs.YtmfienlceobfeaaDoor
set_option linter.unusedSimpArgs false
open Go.RowKit
set_option linter.unusedVariables false
set_option linter.unnecessarySimpa false
set_option maxRecDepth 20000
/-- The call returns a policy in memory of its own, of few rules or of nine, and a call. -/
def RetPolCall (ER ET : Nat) (w : World) (e : Ending) (w' : World) : Prop :=
  ∃ (PA : Option Addr) (pn pc : Nat) (qs : List (Rl × Value)) (els num : Int) (CA : Option Addr) (cn cc : Nat) (zs : List Int), e = .returned (.tuple #[.agg #[.slice PA pn pc, .int .i64 els], .agg #[.int .i64 num, .slice CA cn cc]]) ∧
    OP w' w.heap.size w'.heap.size ER ET PA pn pc qs ∧ (pn ≤ 4 ∨ pn = 9) ∧ (∀ q ∈ qs, q.1.ts.length ≤ 8) ∧ Ow w' w.heap.size CA cn zs ∧ cn ≤ 5 ∧ Below w.heap.size w w'
/-- The call returns two policies in memory of their own. -/
def RetPolPol (ER ET : Nat) (w : World) (e : Ending) (w' : World) : Prop :=
  ∃ (PA : Option Addr) (pn pc : Nat) (qs : List (Rl × Value)) (pe : Int) (QA : Option Addr) (qn qc : Nat) (qs2 : List (Rl × Value)) (qe : Int), e = .returned (.tuple #[.agg #[.slice PA pn pc, .int .i64 pe], .agg #[.slice QA qn qc, .int .i64 qe]]) ∧
    OP w' w.heap.size w'.heap.size ER ET PA pn pc qs ∧ pn ≤ 9 ∧ (∀ q ∈ qs, q.1.ts.length ≤ 8) ∧ OP w' w.heap.size w'.heap.size ER ET QA qn qc qs2 ∧ qn ≤ 9 ∧ (∀ q ∈ qs2, q.1.ts.length ≤ 8) ∧ Below w.heap.size w w'
theorem RdV.drew {w : World} {g pn : Nat} {PA : Option Addr} {rs : List Rl} (h : RdV w g PA pn rs) : RdV w.drew g PA pn rs :=
  ⟨h.1, fun hn => by
    obtain ⟨b, off, e, hc⟩ := h.2 hn
    refine ⟨b, off, e, fun j r hj => ?_⟩
    obtain ⟨TA, tc, hv⟩ := hc j r hj
    exact ⟨TA, tc, fun w' k => hv w' (gr_via (gr_drew (gr_refl w g)) k)⟩⟩
theorem Dr.farA {w : World} {g t : Nat} {p : Int} {A : Option Addr} {n c : Nat} {xs : List Int} (h : Dr w g t p A n c xs) {a : Addr} (ha : a.block ≠ g) (hA : ∀ b off, A = some ⟨b, off, none⟩ → b ≠ a.block) (u : Value) : Dr (w.setCell a u) g t p A n c xs :=
  ⟨h.blk.far (Ne.symm ha) u, ⟨h.rd.1, fun hn => by
    obtain ⟨b, off, e, hlt, hc⟩ := h.rd.2 hn
    exact ⟨b, off, e, hlt, fun j x hx => (World.cell?_of_block (w := w) (a := ⟨b, off + j, none⟩) (heap_setCell_other w a b u (hA b off e))).trans (hc j x hx)⟩⟩, h.byte, h.size, h.low⟩
/-- The bytes lie below B, if there are any. -/
theorem rd_block {w : World} {B n : Nat} {A : Option Addr} {xs : List Value} (h : Rd w B 1 A n xs) (hn : 0 < n) : ∀ b off, A = some ⟨b, off, none⟩ → b < B := fun b off e => by
  obtain ⟨b', off', e', hb, _⟩ := h.2 hn
  rw [e] at e'
  injection e' with e'; injection e' with e1 _
  omega
theorem l1Open_b (A : Option Addr) (n c : Nat) (xs : List Int) (w : World) (hr : Rd w w.heap.size 1 A n (u8s xs)) (hx : ∀ x ∈ xs, 0 ≤ x ∧ x ≤ 255) (hc : n ≤ c) (hc2 : c ≤ 9223372036854775807) :
    Calls Tryd.prog 11 #[.slice A n c] w fun e w' => ∃ n' c' xs', e = .returned (.pointer (some ⟨w.heap.size, 0, none⟩)) ∧ n' ≤ n ∧ Dr w' w.heap.size 56 0 A n' c' xs' ∧ Below w.heap.size w w' ∧ w.heap.size < w'.heap.size := by
  by_cases h : n ≤ 2000
  · have HR := Lib.hid hr
    have HX := Lib.hid hx
    clear hr hx
    have h' : decide ((2000 : Int) < n) = false := by simp; omega
    go_enter Tryd.func11, Tryd.ntmps11
    go_wp2
    go_returns
    exact ⟨n, c, xs, rfl, Nat.le_refl _, dr_new w _ A n c xs HR.out HX.out h, by go_grown, by simp⟩
  · obtain ⟨b, off, rfl, hb, hcl⟩ := hr.2 (by omega)
    have hl := hr.len1
    have hr2 : Rd w w.heap.size 1 (some ⟨b, off, none⟩) 2000 (u8s (xs.take 2000)) := by
      refine ⟨by simp [u8s] at *; omega, fun _ => ⟨b, off, rfl, hb, fun j u hu => hcl j u ?_⟩⟩
      simp only [u8s, List.map_take, List.getElem?_take] at hu
      split at hu
      · exact hu
      · cases hu
    have hx2 : ∀ x ∈ xs.take 2000, 0 ≤ x ∧ x ≤ 255 := fun x h => hx x (List.mem_of_mem_take h)
    have HR := Lib.hid hr2
    have HX := Lib.hid hx2
    clear hr hx hr2 hx2 hcl hl
    have h' : decide ((2000 : Int) < n) = true := by simp; omega
    go_enter Tryd.func11, Tryd.ntmps11
    go_wp2
    go_returns
    exact ⟨2000, c, xs.take 2000, rfl, by omega, dr_new w _ _ 2000 c _ HR.out HX.out (by omega), by go_grown, by simp⟩
end Go.Proofs.YtmfienlceobfeaaDoor
namespace Go.Proofs.YtmfienlceobfeaaDoor
set_option linter.unusedSimpArgs false
open Go.RowKit
set_option linter.unusedVariables false
set_option linter.unnecessarySimpa false
set_option maxRecDepth 20000
/-- The call returns a drawn policy in memory of its own. -/
def RetDP (ER ET : Nat) (w : World) (e : Ending) (w' : World) : Prop :=
  ∃ (PA : Option Addr) (pn pc : Nat) (qs : List (Rl × Value)) (pe : Int), e = .returned (.agg #[.slice PA pn pc, .int .i64 pe]) ∧
    OP w' w.heap.size w'.heap.size ER ET PA pn pc qs ∧ pn ≤ 9 ∧ (∀ q ∈ qs, q.1.ts.length ≤ 8) ∧ Below w.heap.size w w'
end Go.Proofs.YtmfienlceobfeaaDoor
namespace Go.Proofs.YtmfienlceobfeaaDoor
set_option linter.unusedSimpArgs false
open Go.RowKit
set_option linter.unusedVariables false
set_option linter.unnecessarySimpa false
set_option maxRecDepth 20000
set_option maxHeartbeats 1600000 in
set_option maxRecDepth 100000 in
theorem drawCallNear_c (A : Option Addr) (n c : Nat) (xs : List Int) (w : World) (hr : Rd w w.heap.size 1 A n (u8s xs)) (hx : ∀ x ∈ xs, 0 ≤ x ∧ x ≤ 255) (hc : n ≤ c) (hc2 : c ≤ 9223372036854775807) :
    Calls Tryd.prog 4 #[.slice A n c] w (RetDP 37 52 w) := by
  have HR := Lib.hid hr
  have HX := Lib.hid hx
  have HB1 := Lib.hid (Blk.new w 25 [.slice none 0 0, .int .i64 0])
  clear hr hx
  go_enter Tryd.func4, Tryd.ntmps4
  (go_wp2_with fail); (go_at_call 11; refine (l1Open_c A n c xs _ (HR.out.upB (by go_grown) (by go_size)) HX.out hc hc2).mono ?_; rintro e w1 ⟨n1, c1, xs1, rfl, d1, b1, z1⟩; simp only [World.size_alloc] at d1 z1 b1; have D1 := Lib.hid d1; have B1 := Lib.hid ((show Below w.heap.size w (w.alloc (.cells #[.slice none 0 0, .int .i64 0] 25)) by go_grown).trans (b1.mono (by omega))); have R1 := Lib.hid (HB1.out.below b1 (by omega)); clear d1 b1 HB1)
  obtain ⟨g, hg⟩ : ∃ g, g = w.heap.size + 1 := ⟨_, rfl⟩
  rw [← hg] at D1 z1
  simp only [World.size_alloc, ← hg]
  have hgl : w.heap.size < g := by omega
  clear hg
  (go_wp2_with fail); (go_at_call 12; refine (drawPolicy_c g _ A n1 c1 xs1 2 2 _ D1.out (by omega) (by omega) (by omega)).mono ?_; rintro e w2 ⟨_, q2, rfl, ⟨A2, n2, c2, qs2, y2, rfl, o2, hn2, hl2⟩, d2, e2, f2, g2⟩; have R2 := Lib.hid (R1.out.other g2 (by simp <;> omega)); have O2 := Lib.hid o2; have L2 := Lib.hid hl2; have D2 := Lib.hid d2; have G2 := Lib.hid g2; have hs2 := g2.size; have X2 := Lib.hid (Blk.new w2 25 [.slice A2 n2 c2, .int .i64 y2]); clear d2 g2 o2 hl2 R1)
  (go_wp2_with fail); (go_at_call 13; refine (pick_c g _ _ A n1 c1 xs1 _ (D2.out.upto (by go_grown)) (by omega)).mono ?_; rintro e w3 ⟨_, q3, rfl, ⟨x3, rfl, l3, u3⟩, d3, e3, f3, g3⟩; have R3 := Lib.hid ((R2.out.alloc (.cells #[.slice A2 n2 c2, .int .i64 y2] 25)).other g3 (by simp <;> omega)); have X3 := Lib.hid (X2.out.other g3 (by simp <;> omega)); have k3 := gr_via (w := w2) (by (repeat' (first | exact gr_refl _ _ | (with_reducible assumption) | exact Hid.out (by assumption) | refine gr_drew ?_ | refine gr_drewN ?_ _ | refine gr_alloc ?_ _ | refine gr_set ?_ ?_ _ | omega | (simp; omega)))) g3; have O3 := Lib.hid (O2.out.gr k3 (by omega)); have G3 := Lib.hid (gr_via G2.out k3); have D3 := Lib.hid d3; have hs3 := k3.size; clear d3 g3 k3 R2 X2 D2)
  have p0 := X3.out.cell (i := 0) rfl
  have p1 := X3.out.cell (i := 1) rfl
  have r0 := R3.out.cell (i := 0) rfl
  have r1 := R3.out.cell (i := 1) rfl
  have rf := R3.out.free
  by_cases hz : x3 = 0
  · have kz : (x3 == 0) = true := by simpa using hz
    have HQ3 : Hid (RdR w3 w3.heap.size A2 n2 (rls qs2)) := Lib.hid ((O3.out.wide (Nat.le_refl _) hs3).rd)
    have HT3 : Hid (∀ r ∈ rls qs2, r.ts.length ≤ 4) := Lib.hid (fun r hr => by
      obtain ⟨q, hq, rfl⟩ := List.mem_map.1 hr
      have := L2.out q hq; omega)
    (go_wp2_with fail); (go_at_call 14; refine (spoil_c g _ A n1 c1 xs1 A2 n2 c2 (rls qs2) y2 _ D3.out (by omega) HQ3.out (by omega) HT3.out).mono ?_; rintro e w4 ⟨_, q4, rfl, ⟨A4, n4, c4, qs4, y4, rfl, o4, hn4, hl4⟩, d4, e4, f4, g4⟩; have R4 := Lib.hid (R3.out.other g4 (by simp <;> omega)); have O4 := Lib.hid o4; have L4 := Lib.hid hl4; have G4 := Lib.hid (gr_via G3.out g4); have hs4 := g4.size; clear d4 g4 o4 hl4)
    have s0 := R4.out.cell (i := 0) rfl
    have s1 := R4.out.cell (i := 1) rfl
    have sf := R4.out.free
    go_wp2
    refine bodyPost_ret (v := .agg #[.slice A4 n4 c4, .int .i64 y4]) (by simp [results, Tryd.results4, go_sem, s0, s1]) rfl ?_
    go_light
    have hb := B1.out.trans (gr_below G4.out (by omega) (by have := B1.out.size; omega))
    have hbs := B1.out.size
    exact ⟨A4, n4, c4, qs4, y4, rfl, (((O4.out.set_ (g := w.heap.size) (o := 0) (.inl (by omega)) _).set_ (g := w.heap.size) (o := 1) (.inl (by omega)) _)).wide (by omega) (by simp), by omega, ls_more L4.out (by omega), (hb.setCell (p := ⟨w.heap.size, 0, none⟩) (by simp) _).setCell (p := ⟨w.heap.size, 1, none⟩) (by simp) _⟩
  · have kz : (x3 == 0) = false := by simpa using hz
    go_wp2
    refine bodyPost_ret (v := .agg #[.slice A2 n2 c2, .int .i64 y2]) (by simp [results, Tryd.results4, go_sem, r0, r1]) rfl ?_
    go_light
    have hb := B1.out.trans (gr_below G3.out (by omega) (by have := B1.out.size; omega))
    have hbs := B1.out.size
    exact ⟨A2, n2, c2, qs2, y2, rfl, (((O3.out.set_ (g := w.heap.size) (o := 0) (.inl (by omega)) _).set_ (g := w.heap.size) (o := 1) (.inl (by omega)) _)).wide (by omega) (by simp; omega), by omega, ls_more L2.out (by omega), (hb.setCell (p := ⟨w.heap.size, 0, none⟩) (by simp) _).setCell (p := ⟨w.heap.size, 1, none⟩) (by simp) _⟩
end Go.Proofs.YtmfienlceobfeaaDoor
