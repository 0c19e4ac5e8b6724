/- The drawn texts and keys. Conditions: each contract's own. -/
import Derived.Test.YtdbojdgppgphkaaDoorMac
namespace Go.Proofs.YtdbojdgppgphkaaDoor
set_option linter.unusedSimpArgs false
open Go.RowKit
set_option linter.unusedVariables false
set_option linter.unnecessarySimpa false
/-- The call returns a text of at most K bytes; only the reader's block and new blocks have turned. -/
def TextIs (K : Nat) (v : Value) (_ : World) : Prop := ∃ s : ByteArray, v = .string s ∧ s.size ≤ K
def txts : List ByteArray := [⟨#[97]⟩, ⟨#[0]⟩, ⟨#[97, 98, 99]⟩]
theorem txts_size : ∀ s ∈ txts, s.size ≤ 3 := by decide
def txts2 : List ByteArray := [⟨#[]⟩, ⟨#[116, 101, 120, 116]⟩, ⟨#[119, 104, 97, 116, 32, 100, 111, 32, 121, 97, 32, 119, 97, 110, 116, 32, 102, 111, 114, 32, 110, 111, 116, 104, 105, 110, 103, 63]⟩]
theorem txts2_size : ∀ s ∈ txts2, s.size ≤ 28 := by decide
theorem ints_in {l : List Int} {x : Int} (h : 0 ≤ x) (hx : x < l.length) : ∃ y, (ints l)[x.toNat]? = some (.int .i64 y) ∧ y ∈ l := by
  obtain ⟨y, hy⟩ := some_at (rfl : l.length = l.length) (show x.toNat < l.length by omega)
  exact ⟨y, ints_at hy, List.mem_of_getElem? hy⟩
theorem strs_in {l : List ByteArray} {x : Int} (h : 0 ≤ x) (hx : x < l.length) : ∃ y, (strs l)[x.toNat]? = some (.string y) ∧ y ∈ l := by
  obtain ⟨y, hy⟩ := some_at (rfl : l.length = l.length) (show x.toNat < l.length by omega)
  exact ⟨y, strs_at hy, List.mem_of_getElem? hy⟩
theorem dr_new (w : World) (t : Nat) (A : Option Addr) (n c : Nat) (xs : List Int) (hr : Rd w w.heap.size 1 A n (u8s xs)) (hx : ∀ x ∈ xs, 0 ≤ x ∧ x ≤ 255) (hn : n ≤ 2000) :
    Dr (w.alloc (.cells #[.slice A n c, .int .i64 0] t)) w.heap.size t 0 A n c xs :=
  ⟨Blk.new w t [.slice A n c, .int .i64 0], hr.below ((Below.refl _ _).alloc (Nat.le_refl _) _), hx, hn, Int.le_refl _⟩
theorem l1Open_c (A : Option Addr) (n c : Nat) (xs : List Int) (w : World) (hr : Rd w w.heap.size 1 A n (u8s xs)) (hx : ∀ x ∈ xs, 0 ≤ x ∧ x ≤ 255) (hc : n ≤ c) (hc2 : c ≤ 9223372036854775807) :
    Calls Tryd.prog 49 #[.slice A n c] w fun e w' => ∃ n' c' xs', e = .returned (.pointer (some ⟨w.heap.size, 0, none⟩)) ∧ Dr w' w.heap.size 129 0 A n' c' xs' ∧ Below w.heap.size w w' ∧ w.heap.size < w'.heap.size := by
  by_cases h : n ≤ 2000
  · have HR := Lib.hid hr
    have HX := Lib.hid hx
    clear hr hx
    have h' : decide ((2000 : Int) < n) = false := by simp; omega
    go_enter Tryd.func49, Tryd.ntmps49
    go_wp2
    go_returns
    exact ⟨n, c, xs, rfl, dr_new w _ A n c xs HR.out HX.out h, by go_grown, by simp⟩
  · obtain ⟨b, off, rfl, hb, hcl⟩ := hr.2 (by omega)
    have hl := hr.len1
    have hr2 : Rd w w.heap.size 1 (some ⟨b, off, none⟩) 2000 (u8s (xs.take 2000)) := by
      refine ⟨by simp [u8s] at *; omega, fun _ => ⟨b, off, rfl, hb, fun j u hu => hcl j u ?_⟩⟩
      simp only [u8s, List.map_take, List.getElem?_take] at hu
      split at hu
      · exact hu
      · cases hu
    have hx2 : ∀ x ∈ xs.take 2000, 0 ≤ x ∧ x ≤ 255 := fun x h => hx x (List.mem_of_mem_take h)
    have HR := Lib.hid hr2
    have HX := Lib.hid hx2
    clear hr hx hr2 hx2 hcl hl
    have h' : decide ((2000 : Int) < n) = true := by simp; omega
    go_enter Tryd.func49, Tryd.ntmps49
    go_wp2
    go_returns
    exact ⟨2000, c, xs.take 2000, rfl, dr_new w _ _ 2000 c _ HR.out HX.out (by omega), by go_grown, by simp⟩
theorem of_c (g : Nat) (p : Int) (A : Option Addr) (n c : Nat) (xs : List Int) (b K : Nat) (ss : List ByteArray) (w : World) (h : Dr w g 129 p A n c xs) (hp : p ≤ 1099511627000) (hl : ss.length = 3) (hb : Blk w b 9 (strs ss)) (hg : b ≠ g) (hK : ∀ s ∈ ss, s.size ≤ K) :
    Calls Tryd.prog 50 #[.pointer (some ⟨g, 0, none⟩), .slice (some ⟨b, 0, none⟩) 3 3] w (RetDraw (TextIs K) g 129 p 1 A n c xs w) := by
  have HB := Lib.hid hb
  have HK := Lib.hid hK
  have D0 := Lib.hid h
  have HL := Lib.hid hl
  clear hb hK h hl
  go_enter Tryd.func50, Tryd.ntmps50
  (go_wp2_with fail); (go_at_call 51; refine (pick_c g _ _ A n c xs _ (D0.out.upto (by go_grown)) (by omega)).mono ?_; rintro e w1 ⟨_, q1, rfl, ⟨x1, rfl, l1, u1⟩, d1, e1, f1, g1⟩; have B1 := Lib.hid (HB.out.other g1 (by simp; omega)); have D1 := Lib.hid d1; have G1 := Lib.hid g1; clear d1 g1)
  have v1 := u1 (by omega)
  obtain ⟨y, hy, hm⟩ := strs_in (l := ss) l1 (by rw [HL.out]; omega)
  have cy := B1.out.cell hy
  have HM := Lib.hid (HK.out y hm)
  clear hy hm u1
  go_wp2
  go_returns
  exact ⟨_, q1, rfl, ⟨y, rfl, HM.out⟩, D1.out, by omega, by omega, G1.out⟩
