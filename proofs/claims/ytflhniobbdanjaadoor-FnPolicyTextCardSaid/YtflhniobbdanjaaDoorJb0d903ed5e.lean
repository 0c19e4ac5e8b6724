/- Drawn policies of any make; words brought into range. Conditions: each contract's own. -/
import Derived.Test.YtflhniobbdanjaaDoorJa031a8767b
namespace Go.Proofs.YtflhniobbdanjaaDoor
set_option linter.unusedSimpArgs false
open Go.RowKit
set_option linter.unusedVariables false
set_option linter.unnecessarySimpa false
set_option maxRecDepth 20000
set_option maxHeartbeats 1600000 in
set_option maxRecDepth 100000 in
theorem anyPolicy_c (g : Nat) (p : Int) (A : Option Addr) (n c : Nat) (xs : List Int) (w : World) (h : Dr w g 85 p A n c xs) (hp : p ≤ 1099511580000) :
    Calls Tryd.prog 36 #[.pointer (some ⟨g, 0, none⟩)] w (RetDraw (AnyPol 40 67 w.heap.size 4) g 85 p 1200 A n c xs w) := by
  have hlow := h.low
  have hgl := h.blk.lt
  have D0 := Lib.hid h
  clear h
  have hA := Lib.hid (Blk.new w 24 [.slice none 0 0, .int .i64 0])
  go_enter Tryd.func36, Tryd.ntmps36
  (go_wp2_with fail); (go_at_call 34; refine (drawPolicy_c g _ A n c xs 4 3 _ (D0.out.upto (by go_grown)) (by omega) (by omega) (by omega)).mono ?_; rintro e w1 ⟨_, q1, rfl, ⟨A1, n1, c1, qs, e, rfl, o1, hn1, hl1⟩, d1, e1, f1, g1⟩; have A1' := Lib.hid (hA.out.other g1 (by simp; omega)); simp only [World.size_alloc] at o1; have O1 := Lib.hid o1; have HL := Lib.hid hl1; have D1 := Lib.hid d1; have G1 := Lib.hid (gr_via (gr_alloc (gr_refl w g) _) g1); have hs1 := g1.size; simp at hs1; clear hA g1 d1 o1 hl1)
  have hX := Lib.hid (Blk.new w1 24 [.slice A1 n1 c1, .int .i64 e])
  (go_wp2_with fail); (go_at_call 31; refine (pick_c g _ _ A n c xs _ (D1.out.upto (by go_grown)) (by omega)).mono ?_; rintro e w2 ⟨_, q2, rfl, ⟨x2, rfl, l2, u2⟩, d2, e2, f2, g2⟩; have A2 := Lib.hid ((A1'.out.alloc _).other g2 (by simp; omega)); have X2 := Lib.hid (hX.out.other g2 (by simp; omega)); have O2 := Lib.hid ((O1.out.up (by go_grown)).gr g2 (by omega)); have D2 := Lib.hid d2; have G2 := Lib.hid (gr_via (gr_alloc G1.out _) g2); have hs2 := g2.size; simp at hs2; clear hX g2 d2 u2)
  have a0 := A2.out.cell (i := 0) rfl
  have a1 := A2.out.cell (i := 1) rfl
  have af := A2.out.free
  have x0 := X2.out.cell (i := 0) rfl
  have x1 := X2.out.cell (i := 1) rfl
  have n0 : w.heap.size ≠ w1.heap.size := by omega
  have n0' : w1.heap.size ≠ w.heap.size := by omega
  go_wp2_with fail
  · have hr := (O2.out.wide (hi' := w2.heap.size) (Nat.le_refl _) (by omega)).rd
    have HR := Lib.hid hr
    have HT : Hid (∀ r ∈ rls qs, r.ts.length ≤ 4) := Lib.hid (fun r hr => by obtain ⟨q, hq, rfl⟩ := List.mem_map.1 hr; have := HL.out q hq; omega)
    clear a0 a1 af x0 x1 hr
    go_at_call 60
    refine (spoil_c g _ A n c xs A1 n1 c1 (rls qs) e _ D2.out (by omega) HR.out (by omega) HT.out).mono ?_
    rintro _ w3 ⟨_, q3, rfl, ⟨A3, n3, c3, qs3, e3, rfl, o3, hn3, hl3⟩, d3, e3', f3, g3⟩
    have A3' := Lib.hid (A2.out.other g3 (by simp; omega))
    have hs3 := g3.size
    have O3 := Lib.hid o3
    have L3 := Lib.hid hl3
    have D3 := Lib.hid d3
    have G3 := Lib.hid (gr_via G2.out g3)
    clear o3 hl3 d3 g3
    have a0 := A3'.out.cell (i := 0) rfl
    have a1 := A3'.out.cell (i := 1) rfl
    have af := A3'.out.free
    go_wp2
    refine bodyPost_ret (v := .agg #[.slice A3 n3 c3, .int .i64 e3]) (by simp [results, Tryd.results36, go_sem, a0, a1]) rfl ?_
    go_light
    exact ⟨_, q3, rfl, ⟨A3, n3, c3, qs3, e3, rfl, (((O3.out.set_ (g := w.heap.size) (o := 0) (.inl (by omega)) _).set_ (g := w.heap.size) (o := 1) (.inl (by omega)) _).wide (by omega) (by simp)), by omega, L3.out⟩, (D3.out.far (by simp; omega) _).far (by simp; omega) _, by omega, by omega, gr_set (gr_set G3.out (.inr (by simp)) _) (.inr (by simp)) _⟩
  · go_wp2
    refine bodyPost_ret (v := .agg #[.slice A1 n1 c1, .int .i64 e]) (by simp [results, Tryd.results36, go_sem, a0, a1, n0, n0']) rfl ?_
    go_light
    exact ⟨_, q2, rfl, ⟨A1, n1, c1, qs, e, rfl, (((O2.out.set_ (g := w.heap.size) (o := 0) (.inl (by omega)) _).set_ (g := w.heap.size) (o := 1) (.inl (by omega)) _).wide (by omega) (by simp; omega)), by omega, ls_more HL.out (by omega)⟩, (D2.out.far (by simp; omega) _).far (by simp; omega) _, by omega, by omega, gr_set (gr_set G2.out (.inr (by simp)) _) (.inr (by simp)) _⟩
end Go.Proofs.YtflhniobbdanjaaDoor
