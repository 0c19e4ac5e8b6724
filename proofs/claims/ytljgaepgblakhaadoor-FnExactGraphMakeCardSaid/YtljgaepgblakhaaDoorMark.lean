/- Contracts of the functions that mark points, and look for the marks. Conditions: each contract's own. -/
import Derived.Test.YtljgaepgblakhaaDoorImplTrim
namespace Go.Proofs.YtljgaepgblakhaaDoor
set_option linter.unusedSimpArgs false
open Go.RowKit
set_option linter.unusedVariables false
set_option linter.unnecessarySimpa false
/-- Point j when points are marked from k on. -/
def mpt (k : Int) (j : Nat) : Pt := ⟨k + 7 * (j : Int), k + 7 * (j : Int) + 1, k + 7 * (j : Int) + 1 + 1, k + 7 * (j : Int) + 1 + 1 + 1, k + 7 * (j : Int) + 1 + 1 + 1 + 1, k + 7 * (j : Int) + 1 + 1 + 1 + 1 + 1, k + 7 * (j : Int) + 1 + 1 + 1 + 1 + 1 + 1⟩
def mpts (k : Int) (n : Nat) : List Pt := (List.range n).map (mpt k)
theorem mpts_len (k : Int) (n : Nat) : (mpts k n).length = n := by simp [mpts]
theorem mpts_succ (k : Int) (n : Nat) : pts (mpts k (n + 1)) = pts (mpts k n) ++ (mpt k n).cells := by
  rw [mpts, List.range_succ, List.map_append]
  exact pts_add _ _
theorem mpts_at (k : Int) {n j : Nat} (h : j < n) : (mpts k n)[j]? = some (mpt k j) := by simp [mpts, h]
set_option maxHeartbeats 1000000 in
set_option maxRecDepth 100000 in
theorem markPointS_c (base : Nat) (A : Option Addr) (n cap k : Nat) (ys : List Value) (w : World) (h : w.ownsRow base 106 7 (.slice A n cap) n ys) (hk : k + 7 * n ≤ 100000000) :
    Calls Tryd.prog 50 #[.slice A n cap, .int .i64 k] w (fun e w' => e = .returned (.int .i64 ((k : Int) + 7 * (n : Int))) ∧ w'.ownsRow base 106 7 (.slice A n cap) n (pts (mpts k n)) ∧ w.grownBy w' (Value.slice A n cap).ownBlock) := by
  have H := Lib.hid h
  clear h
  go_enter Tryd.func50, Tryd.ntmps50
  go_wp2
  go_loopg [1, 5] n (fun gk q i wr => ∃ (j : Nat) (zs : List Value), gk + j = n ∧ i = .int .i64 j ∧ q = .int .i64 ((k : Int) + 7 * (j : Int)) ∧ Hid (wr.ownsRow base 106 7 (.slice A n cap) n zs) ∧ Hid (zs.take (j * 7) = pts (mpts k j)) ∧ Hid (w.grownBy wr (Value.slice A n cap).ownBlock))
  case atStart => exact ⟨0, ys, rfl, rfl, by simp, H, Lib.hid (by simp [mpts, pts]), World.grownBy.refl _ _⟩
  case round =>
    obtain ⟨j, zs, hgk, rfl, rfl, HO, HT, HG⟩ := hrel
    by_cases hlt : j < n
    · obtain ⟨gk, rfl⟩ : ∃ m, gk = m + 1 := ⟨gk - 1, by omega⟩
      obtain ⟨g, rfl⟩ := own_someE HO.out (by omega)
      obtain ⟨⟨y0, y1, y2, y3, y4, y5, y6, e0, e1, e2, e3, e4, e5, e6⟩, f1⟩ := own7 HO.out hlt
      go_wp2
      go_roundg gk
      case measure => omega
      case rel =>
        go_light
        have hl := HO.out.1
        refine ⟨j + 1, setL zs (j * 7) (mpt k j).cells, by omega, by go_num, by go_num, own_setL HO.out (j * 7) (mpt k j).cells, ?_, (gn_set (gn_set (gn_set (gn_set (gn_set (gn_set (gn_set HG.out (p := ⟨g, j * 7, none⟩) (.inl rfl) (.int .i64 ((k : Int) + 7 * (j : Int)))) (p := ⟨g, j * 7 + 1, none⟩) (.inl rfl) (.int .i64 ((k : Int) + 7 * (j : Int) + 1))) (p := ⟨g, j * 7 + 2, none⟩) (.inl rfl) (.int .i64 ((k : Int) + 7 * (j : Int) + 1 + 1))) (p := ⟨g, j * 7 + 3, none⟩) (.inl rfl) (.int .i64 ((k : Int) + 7 * (j : Int) + 1 + 1 + 1))) (p := ⟨g, j * 7 + 4, none⟩) (.inl rfl) (.int .i64 ((k : Int) + 7 * (j : Int) + 1 + 1 + 1 + 1))) (p := ⟨g, j * 7 + 5, none⟩) (.inl rfl) (.int .i64 ((k : Int) + 7 * (j : Int) + 1 + 1 + 1 + 1 + 1))) (p := ⟨g, j * 7 + 6, none⟩) (.inl rfl) (.int .i64 ((k : Int) + 7 * (j : Int) + 1 + 1 + 1 + 1 + 1 + 1)))⟩
        show _ = _
        have h1 := setL_take zs (j * 7) (mpt k j).cells (by rw [hl]; simp [Pt.cells]; omega)
        rw [mpts_succ, ← HT.out, show (j + 1) * 7 = j * 7 + 7 from by omega]
        exact h1
    · obtain rfl : j = n := by omega
      go_wp2
      go_returns
      have ht := HT.out
      have hl := HO.out.1
      rw [List.take_of_length_le (by omega)] at ht
      subst ht
      exact ⟨rfl, HO.out, HG.out⟩
set_option maxHeartbeats 1000000 in
set_option maxRecDepth 100000 in
theorem heldPointS_c (A : Option Addr) (n c k : Nat) (w : World) (hr : Rd w w.heap.size 7 A n (pts (mpts k n))) (hk : k + 7 * n ≤ 100000000) :
    Calls Tryd.prog 51 #[.slice A n c, .int .i64 k] w (RetB (.int .i64 ((k : Int) + 7 * (n : Int))) w) := by
  have HR := Lib.hid hr
  clear hr
  go_enter Tryd.func51, Tryd.ntmps51
  go_wp2
  go_loopg [1, 5] n (fun gk q i wr => ∃ (j : Nat), gk + j = n ∧ i = .int .i64 j ∧ q = .int .i64 ((k : Int) + 7 * (j : Int)) ∧ Hid (Below w.heap.size w wr))
  case atStart => exact ⟨0, rfl, rfl, by simp, Lib.hid (Below.refl _ _)⟩
  case round =>
    obtain ⟨j, hgk, rfl, rfl, HB⟩ := hrel
    by_cases hlt : j < n
    · obtain ⟨gk, rfl⟩ : ∃ m, gk = m + 1 := ⟨gk - 1, by omega⟩
      obtain ⟨b0, off, p, rfl, hb, hp, hpl, c0, c1, c2, c3, c4, c5, c6⟩ := (HR.out.below HB.out).pt hlt
      have he : p = mpt k j := by
        have := mpts_at (k : Int) hlt
        rw [hp] at this
        injection this
      subst he
      clear hp hpl
      unfold mpt at c0 c1 c2 c3 c4 c5 c6
      simp only at c0 c1 c2 c3 c4 c5 c6
      go_wp2
      go_roundg gk
      case measure => omega
      case rel =>
        go_light
        exact ⟨j + 1, by omega, by go_num, by go_num, HB⟩
    · obtain rfl : j = n := by omega
      go_wp2
      go_returns
      exact ⟨rfl, HB.out⟩
end Go.Proofs.YtljgaepgblakhaaDoor
