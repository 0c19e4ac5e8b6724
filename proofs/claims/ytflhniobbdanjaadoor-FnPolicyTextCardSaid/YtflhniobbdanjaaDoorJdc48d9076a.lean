/- The contracts of the reference's mixing of a block. Conditions: each contract's own. -/
import Derived.Test.YtflhniobbdanjaaDoorJe7c8e2273f
import Derived.Deep.CutRange
namespace Go.Proofs.YtflhniobbdanjaaDoor
set_option linter.unusedSimpArgs false
open Go.RowKit
set_option linter.unusedVariables false
set_option linter.unnecessarySimpa false
theorem own_some {w : World} {base e size n c : Nat} {A : Option Addr} {xs : List Value} (h : w.ownsRow base e size (.slice A n c) n xs) (hn : 0 < n) : ∃ g, A = some ⟨g, 0, none⟩ := by
  rcases h.2 with ⟨_, h0⟩ | ⟨g, cap, cur, hv, _⟩
  · omega
  · exact ⟨g, by injection hv⟩
theorem own_drewN {w : World} {base e size n : Nat} {v : Value} {xs : List Value} (h : w.ownsRow base e size v n xs) (k : Nat) : (w.drewN k).ownsRow base e size v n xs := h
theorem below_drewN {B : Nat} {a w : World} (h : Below B a w) (n : Nat) : Below B a (w.drewN n) := h.trans ⟨rfl, rfl, rfl, Nat.le_refl _, fun _ _ => rfl⟩
/-- The row while it is moved on by one: from place n on it has been. -/
def shI (L : List Int) (n : Nat) : List Int := L.take (n + 1) ++ (L.drop n).take (7 - n)
theorem shI_len (L : List Int) (n : Nat) (h : L.length = 8) (hn : n ≤ 7) : (shI L n).length = 8 := by
  unfold shI
  rw [List.length_append, List.length_take, List.length_take, List.length_drop]; omega
theorem shI_set {L : List Int} {n : Nat} {x : Int} (h : L.length = 8) (hn : n + 1 ≤ 7) (hx : (shI L (n + 1))[n]? = some x) : (shI L (n + 1)).set (n + 1) x = shI L n := by
  match L, h with
  | [a, b, c, d, e, f, g, h], _ =>
    have h7 : n = 0 ∨ n = 1 ∨ n = 2 ∨ n = 3 ∨ n = 4 ∨ n = 5 ∨ n = 6 := by omega
    rcases h7 with rfl | rfl | rfl | rfl | rfl | rfl | rfl <;> (simp [shI] at hx ⊢; exact hx.symm)
theorem src_cells {w : World} {B b off n : Nat} {us : List Value} (h : Rd w B 1 (some ⟨b, off, none⟩) n us) (hn : 0 < n) : ∀ j u, us[j]? = some u → w.cell? ((⟨b, off, none⟩ : Addr).add j) = some u := by
  intro j u hu
  obtain ⟨b', off', e, _, hc⟩ := h.2 hn
  injection e with e
  injection e with e1 e2
  subst e1 e2
  have : (⟨b, off, none⟩ : Addr).add j = ⟨b, off + j, none⟩ := by unfold Addr.add; split <;> simp_all
  rw [this]; exact hc j u hu
end Go.Proofs.YtflhniobbdanjaaDoor
