/- Contracts of the functions that mark ints, look for the marks, and liken ints. Conditions: each contract's own. -/
import Derived.Test.YtljgaepgblakhaaDoorJb03cc48434
import Derived.Test.YtljgaepgblakhaaDoorJf9dd0ade97
import Derived.Test.YtljgaepgblakhaaDoorJ8dc0b0ccbc
namespace Go.Proofs.YtljgaepgblakhaaDoor
set_option linter.unusedSimpArgs false
open Go.RowKit
set_option linter.unusedVariables false
set_option linter.unnecessarySimpa false
def runI (k : Int) (n : Nat) : List Int := (List.range n).map (fun (i : Nat) => k + (i : Int))
theorem runI_len (k : Int) (n : Nat) : (runI k n).length = n := by simp [runI]
theorem runI_succ (k : Int) (n : Nat) : runI k (n + 1) = runI k n ++ [k + (n : Int)] := by simp [runI, List.range_succ]
theorem runI_at (k : Int) {n i : Nat} (h : i < n) : (runI k n)[i]? = some (k + (i : Int)) := by simp [runI, h]
theorem int_at {xs : List Int} {j : Nat} {x : Int} (h : xs[j]? = some x) : (ints xs)[j]? = some (.int .i64 x) := by simp [ints, h]
theorem own_cell1 {w : World} {base e n g cap : Nat} {xs : List Value} (h : w.ownsRow base e 1 (.slice (some ⟨g, 0, none⟩) n cap) n xs) {j : Nat} (hj : j < n) :
    (∃ y, w.cell? ⟨g, j, none⟩ = some y) ∧ w.frozen? ⟨g, j, none⟩ = false := by
  obtain ⟨y, hy⟩ := some_at h.1 (k := j) (by omega)
  have hc := (h.cellAt j (by omega)).trans hy
  have hf := h.frozenAt j
  exact ⟨⟨y, hc⟩, hf⟩
theorem own_someI {w : World} {base e size n c : Nat} {A : Option Addr} {xs : List Value} (h : w.ownsRow base e size (.slice A n c) n xs) (hn : 0 < n) : ∃ g, A = some ⟨g, 0, none⟩ := by
  rcases h.2 with h1 | ⟨g, cap, cur, h1, _⟩
  · cases h1
    omega
  · cases h1
    exact ⟨g, rfl⟩
set_option maxHeartbeats 1000000 in
set_option maxRecDepth 100000 in
theorem markIntS_y (base : Nat) (A : Option Addr) (n cap k : Nat) (ys : List Value) (w : World) (h : w.ownsRow base 3 1 (.slice A n cap) n ys) (hk : k + n ≤ 100000000) :
    Calls Tryd.prog 45 #[.slice A n cap, .int .i64 k] w (fun e w' => e = .returned (.int .i64 ((k : Int) + (n : Int))) ∧ w'.ownsRow base 3 1 (.slice A n cap) n (ints (runI k n)) ∧ w.grownBy w' (Value.slice A n cap).ownBlock) := by
  have H := Lib.hid h
  clear h
  go_enter Tryd.func45, Tryd.ntmps45
  go_wp2
  go_loopg [1, 5] n (fun gk q i wr => ∃ (j : Nat) (zs : List Value), gk + j = n ∧ i = .int .i64 j ∧ q = .int .i64 ((k : Int) + (j : Int)) ∧ Hid (wr.ownsRow base 3 1 (.slice A n cap) n zs) ∧ Hid (zs.take j = ints (runI k j)) ∧ Hid (w.grownBy wr (Value.slice A n cap).ownBlock))
  case atStart => exact ⟨0, ys, rfl, rfl, by simp, H, Lib.hid (by simp [runI, ints]), World.grownBy.refl _ _⟩
  case round =>
    obtain ⟨j, zs, hgk, rfl, rfl, HO, HT, HG⟩ := hrel
    by_cases hlt : j < n
    · obtain ⟨gk, rfl⟩ : ∃ m, gk = m + 1 := ⟨gk - 1, by omega⟩
      obtain ⟨g, rfl⟩ := own_someI HO.out (by omega)
      obtain ⟨⟨y0, e0⟩, f1⟩ := own_cell1 HO.out hlt
      go_wp2
      go_roundg gk
      case measure => omega
      case rel =>
        go_light
        have hl := HO.out.1
        refine ⟨j + 1, zs.set j (.int .i64 ((k : Int) + (j : Int))), by omega, by go_num, by go_num, (HO.out.stored j _).1, ?_, gn_set HG.out (p := ⟨g, j, none⟩) (.inl rfl) (.int .i64 ((k : Int) + (j : Int)))⟩
        show _ = _
        have := HT.out
        rw [List.take_add_one, List.getElem?_set_self (by omega), List.take_set_of_le (by omega), this, runI_succ]
        simp [ints]
    · obtain rfl : j = n := by omega
      go_wp2
      go_returns
      have ht := HT.out
      have hl := HO.out.1
      rw [List.take_of_length_le (by omega)] at ht
      subst ht
      exact ⟨rfl, HO.out, HG.out⟩
set_option maxHeartbeats 1000000 in
set_option maxRecDepth 100000 in
theorem heldIntS_y (A : Option Addr) (n c k : Nat) (w : World) (hr : Rd w w.heap.size 1 A n (ints (runI k n))) (hk : k + n ≤ 100000000) :
    Calls Tryd.prog 46 #[.slice A n c, .int .i64 k] w (RetB (.int .i64 ((k : Int) + (n : Int))) w) := by
  have HR := Lib.hid hr
  clear hr
  go_enter Tryd.func46, Tryd.ntmps46
  go_wp2
  go_loopg [1, 5] n (fun gk q i wr => ∃ (j : Nat), gk + j = n ∧ i = .int .i64 j ∧ q = .int .i64 ((k : Int) + (j : Int)) ∧ Below w.heap.size w wr)
  case atStart => exact ⟨0, rfl, rfl, by simp, Below.refl _ _⟩
  case round =>
    obtain ⟨j, hgk, rfl, rfl, hbel⟩ := hrel
    by_cases hlt : j < n
    · obtain ⟨gk, rfl⟩ : ∃ m, gk = m + 1 := ⟨gk - 1, by omega⟩
      obtain ⟨b, off, rfl, hb, hc⟩ := HR.out.2 (by omega)
      have hcell := (hbel.cell (p := ⟨b, off + j, none⟩) hb).trans (hc j _ (int_at (runI_at (k : Int) hlt)))
      clear hc
      go_wp2
      go_roundg gk
      case measure => omega
      case rel =>
        go_light
        exact ⟨j + 1, by omega, by go_num, by go_num, hbel⟩
    · obtain rfl : j = n := by omega
      go_wp2
      go_returns
      exact ⟨rfl, hbel⟩
theorem eqIntS_y (A B : Option Addr) (n c d : Nat) (xs : List Int) (w : World) (hx : Rd w w.heap.size 1 A n (ints xs)) (hy : Rd w w.heap.size 1 B n (ints xs)) (hn : n ≤ 9223372036854775807) :
    Calls Tryd.prog 44 #[.slice A n c, .slice B n d] w (RetB (.bool true) w) := by
  have HX := Lib.hid hx
  have HY := Lib.hid hy
  clear hx hy
  go_enter Tryd.func44, Tryd.ntmps44
  go_wp2
  go_loopg [5] n (fun gk i wr => ∃ (j : Nat), gk + j = n ∧ i = .int .i64 j ∧ Below w.heap.size w wr)
  case atStart => exact ⟨0, rfl, rfl, Below.refl _ _⟩
  case round =>
    obtain ⟨j, hgk, rfl, hbel⟩ := hrel
    by_cases hlt : j < n
    · obtain ⟨gk, rfl⟩ : ∃ m, gk = m + 1 := ⟨gk - 1, by omega⟩
      have hlx : xs.length = n := by simpa [ints] using HX.out.1
      obtain ⟨x, hx⟩ := some_at hlx hlt
      obtain ⟨b, off, rfl, hb, hc⟩ := HX.out.2 (by omega)
      obtain ⟨b2, off2, rfl, hb2, hc2⟩ := HY.out.2 (by omega)
      have hcell := (hbel.cell (p := ⟨b, off + j, none⟩) hb).trans (hc j _ (int_at hx))
      have hcell2 := (hbel.cell (p := ⟨b2, off2 + j, none⟩) hb2).trans (hc2 j _ (int_at hx))
      clear hc hc2 hx hlx
      go_wp2
      go_region
      go_wp2
      go_roundg gk
      case measure => omega
      case rel =>
        go_light
        exact ⟨j + 1, by omega, by go_num, hbel.drew⟩
    · obtain rfl : j = n := by omega
      go_wp2
      go_returns
      exact ⟨rfl, hbel⟩
end Go.Proofs.YtljgaepgblakhaaDoor
