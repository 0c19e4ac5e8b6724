/- The arguments of a law, read off the row's data: what the walks are told of them; the frame of a law's proof. No condition. -/
import Derived.Test.YtmfienlceobfeaaDoorRows
import Derived.Test.YtmfienlceobfeaaDoorBase
import Derived.ProofKit
import Derived.OpenShut
import Derived.ShutString
import Derived.ChangeOld
import Derived.Lib.SmallJoins
import Derived.Deep.Slices
import Derived.Deep.Fields
namespace Go.Proofs.YtmfienlceobfeaaDoor
set_option linter.unusedSimpArgs false
open Go.ChangeShapes Go.WideShapes Go.ChangeAt Go.RowKit Go.Joins
open Go.ChangeMaps (open_string shut_string)
set_option linter.unusedVariables false
set_option maxRecDepth 100000

theorem own : ownKnob Tryd.prog.godebug = none := by kernel_rfl
theorem laidOut : laidOutB Tryd.prog = true := by kernel_rfl

section
variable {H : Type} {enc : TypeId × Value → H} {P : Program} {w : World} {held : Bool} {sp : Nat → Bool}

theorem add_norm (b off n : Nat) : (⟨b, off, none⟩ : Addr).add n = ⟨b, off + n, none⟩ := by unfold Addr.add; split <;> simp_all

/-- Cells in a row behind an address: what 'Rd' asks. -/
theorem rd_of_add {a : Addr} {n size : Nat} {xs : List Value} (hl : xs.length = n * size) (h : ∀ j u, xs[j]? = some u → w.cell? (a.add j) = some u) (hs : 0 < n → 0 < size) : Rd w w.heap.size size (some a) n xs := by
  refine ⟨hl, fun hn => ?_⟩
  have hp : 0 < xs.length := by rw [hl]; exact Nat.mul_pos hn (hs hn)
  have h0 := h 0 _ (List.getElem?_eq_getElem hp)
  have hsp : a.spot = none := by simpa [Addr.add] using World.cell?_spot h0
  obtain ⟨b, off, spot⟩ := a
  subst hsp
  refine ⟨b, off, rfl, ?_, fun j u hu => by rw [← add_norm]; exact h j u hu⟩
  rw [add_norm] at h0
  exact World.block_lt_of_cell? w _ h0

theorem rd_ints {t e : TypeId} {k : IntKind} {fuel : Nat} {v : Value} {y : DataW H × List MemPlace} (ht : P.underlying t = some (.slice e)) (he : P.underlying e = some (.int k)) (hc : P.cellsOf e = 1)
    (h : DataW.trod enc P w 0 sp held fuel t [v] = some y) : ∃ (A : Option Addr) (n c : Nat) (xs : List Int), v = .slice A n c ∧ Rd w w.heap.size 1 A n (xs.map (Value.int k)) ∧ n ≤ c ∧ c ≤ maxLen ∧ ∀ x ∈ xs, (Lit.int k x).wf = true := by
  rcases open_ints ht he hc h with ⟨hcs, _⟩ | ⟨a, len, cap, zs, hcs, _, hl, hm, hz, _, hcell, hwz⟩
  · injection hcs with hcs
    exact ⟨none, 0, 0, [], hcs, Rd.nil_, by omega, by unfold maxLen; omega, by simp⟩
  · injection hcs with hcs
    have hzl : len ≤ zs.length := by rw [hz]; split <;> omega
    refine ⟨some a, len, cap, zs.take len, hcs, rd_of_add (by simp; omega) (fun j u hu => ?_) (fun _ => by omega), hl, hm, fun x hx => hwz x (List.mem_of_mem_take hx)⟩
    rw [List.getElem?_map, List.getElem?_take] at hu
    split at hu
    · rename_i hj
      have hjz : j < zs.length := by omega
      rw [List.getElem?_eq_getElem hjz] at hu
      simp at hu
      subst hu
      rw [hcell j hjz]
      simp [hjz]
    · simp at hu
end

/-- A law's argument: an int. -/
def IsInt (_ : World) (v : Value) : Prop := ∃ n, v = .int .i64 n ∧ -9223372036854775808 ≤ n ∧ n ≤ 9223372036854775807
/-- A law's argument: a string. -/
def IsStr (_ : World) (v : Value) : Prop := ∃ s, v = .string s ∧ s.size ≤ maxLen
/-- A law's argument: bytes. -/
def IsBytes (w : World) (v : Value) : Prop := ∃ (A : Option Addr) (n c : Nat) (xs : List Int), v = .slice A n c ∧ Rd w w.heap.size 1 A n (xs.map (Value.int .u8)) ∧ n ≤ c ∧ c ≤ maxLen ∧ ∀ x ∈ xs, 0 ≤ x ∧ x ≤ 255
/-- A law's argument: a call. -/
def IsCall (w : World) (v : Value) : Prop := ∃ num A n c xs, v = .agg #[.int .i64 num, .slice A n c] ∧ Rd w w.heap.size 1 A n (ints xs) ∧ n ≤ maxLen

section
variable {H : Type} {enc : TypeId × Value → H} {W : World} {base : Nat} {v : Value} {d : DataW H} {p : List MemPlace}
theorem open_Int (ho : Value.okWide Tryd.prog W .any base 3 v) (h : DataW.Trod enc Tryd.prog W 0 (fun _ => true) true 3 v d p) : IsInt W v := by
  obtain ⟨x, rfl, rfl, rfl, wx⟩ := open_int Tryd.underlying3 ho h
  exact ⟨x, rfl, (Go.bounds_i64 wx).1, (Go.bounds_i64 wx).2⟩
theorem open_Str (ho : Value.okWide Tryd.prog W .any base 9 v) (h : DataW.Trod enc Tryd.prog W 0 (fun _ => true) true 9 v d p) : IsStr W v := by
  obtain ⟨s, rfl, rfl, rfl, hs⟩ := open_string Tryd.underlying9 ho h
  exact ⟨s, rfl, hs⟩
theorem cells_int : Tryd.prog.cellsOf 3 = 1 := by kernel_rfl
theorem cells_u8 : Tryd.prog.cellsOf 5 = 1 := by kernel_rfl
theorem open_Bytes (ho : Value.okWide Tryd.prog W .any base 22 v) (h : DataW.Trod enc Tryd.prog W 0 (fun _ => true) true 22 v d p) : IsBytes W v := by
  obtain ⟨A, n, c, rfl⟩ := okWide_slice Tryd.underlying22 ho
  obtain ⟨fuel, hf⟩ := h
  obtain ⟨A2, n2, c2, xs, hv, hr, hn, hcm, hw⟩ := rd_ints Tryd.underlying22 Tryd.underlying5 cells_u8 (by simpa [Value.cells] using hf)
  exact ⟨A2, n2, c2, xs, hv, hr, hn, hcm, fun x hx => bounds_u8 (hw x hx)⟩
end
end Go.Proofs.YtmfienlceobfeaaDoor
