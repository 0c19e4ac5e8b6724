/- Contracts of the functions on points and graphs: GraphOk on both sides. Conditions: each contract's own. -/
import Derived.Test.YtljgaepgblakhaaDoorCall
import Derived.Deep.RegionHeld3
namespace Go.Proofs.YtljgaepgblakhaaDoor
set_option linter.unusedSimpArgs false
open Go.RowKit
set_option linter.unusedVariables false
structure Pt where
  v : Int
  f : Int
  m : Int
  op : Int
  x : Int
  y : Int
  n : Int
deriving DecidableEq
def Pt.cells (p : Pt) : List Value := [.int .i64 p.v, .int .i64 p.f, .int .i64 p.m, .int .i64 p.op, .int .i64 p.x, .int .i64 p.y, .int .i64 p.n]
def ptV (p : Pt) : Value := .agg #[.int .i64 p.v, .int .i64 p.f, .int .i64 p.m, .int .i64 p.op, .int .i64 p.x, .int .i64 p.y, .int .i64 p.n]
def pts (ps : List Pt) : List Value := ps.flatMap Pt.cells
def verB (v : Int) : Bool := decide (1 ≤ v ∧ v ≤ 4)
def leafB (p : Pt) : Bool := p.f == 0 && p.m == 0 && p.x == 0 && p.y == 0 && p.n == 0
def ptB (p : Pt) (i : Int) : Bool :=
  if p.op = 0 then verB p.v && leafB p else
  p.v == 0 && (p.op == 1 || p.op == 3) && decide (0 ≤ p.f) && decide (p.f ≤ 4) && decide (1 ≤ p.m) && decide (p.m ≤ 4294967295) && wordB p.x && decide (0 ≤ p.y) && decide (p.y < i) && decide (0 ≤ p.n) && decide (p.n < i)
def graphB (ps : List Pt) : Bool := decide (1 ≤ ps.length ∧ ps.length ≤ 120) && ps.zipIdx.all fun q => ptB q.1 q.2
theorem pts_len (ps : List Pt) : (pts ps).length = ps.length * 7 := by
  unfold pts
  induction ps with
  | nil => rfl
  | cons p ps ih => rw [List.flatMap_cons, List.length_append, ih, List.length_cons]; simp [Pt.cells]; omega
theorem flat_at {α : Type} (c : α → List Value) (s : Nat) (hc : ∀ a, (c a).length = s) {l : List α} {k : Nat} {a : α} (h : l[k]? = some a) {j : Nat} (hj : j < s) : (l.flatMap c)[k * s + j]? = (c a)[j]? := by
  induction l generalizing k with
  | nil => simp at h
  | cons b l ih =>
    rw [List.flatMap_cons]
    cases k with
    | zero =>
      simp at h
      subst h
      rw [List.getElem?_append_left (by rw [hc]; omega)]
      simp
    | succ k =>
      rw [List.getElem?_append_right (by rw [hc, Nat.succ_mul]; omega), hc]
      rw [show (k + 1) * s + j - s = k * s + j from by rw [Nat.succ_mul]; omega]
      exact ih (by simpa using h)
theorem take_flat {α : Type} (c : α → List Value) (s : Nat) (hc : ∀ a, (c a).length = s) {l : List α} {k : Nat} {a : α} (h : l[k]? = some a) : (l.flatMap c).take (k * s + s) = (l.flatMap c).take (k * s) ++ c a := by
  induction l generalizing k with
  | nil => simp at h
  | cons b l ih =>
    rw [List.flatMap_cons]
    cases k with
    | zero =>
      simp at h
      subst h
      rw [Nat.zero_mul, Nat.zero_add, List.take_zero, List.take_append_of_le_length (by rw [hc]; exact Nat.le_refl _), List.take_of_length_le (by rw [hc]; exact Nat.le_refl _)]
      rfl
    | succ k =>
      rw [Nat.succ_mul, show k * s + s + s = (c b).length + (k * s + s) from by rw [hc]; omega, show k * s + s = (c b).length + k * s from by rw [hc]; omega, List.take_length_add_append, List.take_length_add_append]
      rw [show (c b).length + k * s = k * s + s from by rw [hc]; omega, ih (by simpa using h), List.append_assoc]
theorem pts_at {ps : List Pt} {k : Nat} {p : Pt} (h : ps[k]? = some p) {j : Nat} (hj : j < 7) : (pts ps)[k * 7 + j]? = p.cells[j]? := flat_at Pt.cells 7 (fun _ => rfl) h hj
/-- The seven cells of the k-th point. -/
theorem Rd.pt {w : World} {B n : Nat} {A : Option Addr} {ps : List Pt} (h : Rd w B 7 A n (pts ps)) {k : Nat} (hk : k < n) :
    ∃ b off p, A = some ⟨b, off, none⟩ ∧ b < B ∧ ps[k]? = some p ∧ ps.length = n ∧ w.cell? ⟨b, off + k * 7, none⟩ = some (.int .i64 p.v) ∧ w.cell? ⟨b, off + k * 7 + 1, none⟩ = some (.int .i64 p.f) ∧ w.cell? ⟨b, off + k * 7 + 2, none⟩ = some (.int .i64 p.m) ∧
      w.cell? ⟨b, off + k * 7 + 3, none⟩ = some (.int .i64 p.op) ∧ w.cell? ⟨b, off + k * 7 + 4, none⟩ = some (.int .i64 p.x) ∧ w.cell? ⟨b, off + k * 7 + 5, none⟩ = some (.int .i64 p.y) ∧ w.cell? ⟨b, off + k * 7 + 6, none⟩ = some (.int .i64 p.n) := by
  obtain ⟨b, off, rfl, hb, hc⟩ := h.2 (by omega)
  have hl : ps.length = n := by have := h.1; rw [pts_len] at this; omega
  obtain ⟨p, hp⟩ := some_at hl hk
  have g : ∀ j u, j < 7 → p.cells[j]? = some u → w.cell? ⟨b, off + k * 7 + j, none⟩ = some u := fun j u hj hu => by
    have := hc (k * 7 + j) u (by rw [pts_at hp hj]; exact hu)
    rw [show off + k * 7 + j = off + (k * 7 + j) from by omega]
    exact this
  exact ⟨b, off, p, rfl, hb, hp, hl, g 0 _ (by omega) rfl, g 1 _ (by omega) rfl, g 2 _ (by omega) rfl, g 3 _ (by omega) rfl, g 4 _ (by omega) rfl, g 5 _ (by omega) rfl, g 6 _ (by omega) rfl⟩
theorem verdictOk_c (n : Int) (w : World) : Calls Tryd.prog 74 #[.int .i64 n] w (RetW (.bool (verB n)) w) := by
  go_enter Tryd.func74, Tryd.ntmps74
  go_wp2
  all_goals go_returns
  all_goals (refine ⟨?_, rfl⟩)
  all_goals go_light
  all_goals simp [verB]; omega
theorem pointOk_c (p : Pt) (i : Int) (w : World) : Calls Tryd.prog 102 #[ptV p, .int .i64 i] w (RetB (.bool (ptB p i)) w) := by
  obtain ⟨v, f, m, op, x, y, n⟩ := p
  unfold ptV
  go_enter Tryd.func102, Tryd.ntmps102
  go_wp2_with (first | (go_at_call 73; refine (wordOk_c _ _).mono ?_; rintro e w' ⟨rfl, rfl⟩) | (go_at_call 74; refine (verdictOk_c _ _).mono ?_; rintro e w' ⟨rfl, rfl⟩))
  all_goals go_returns
  all_goals (refine ⟨retv ?_, by go_grown⟩)
  all_goals go_light
  all_goals (show Value.bool _ = Value.bool _; refine congrArg Value.bool ?_; simp_all [ptB, leafB] <;> (intros; omega))
theorem graphOk_c (A : Option Addr) (n c : Nat) (ps : List Pt) (w : World) (hr : Rd w w.heap.size 7 A n (pts ps)) (hn : n ≤ 9223372036854775807) :
    Calls Tryd.prog 54 #[.slice A n c] w (RetB (.bool (graphB ps)) w) := by
  have hl : ps.length = n := by have := hr.1; rw [pts_len] at this; omega
  have HR := Lib.hid hr
  have HL := Lib.hid hl
  clear hr hl
  by_cases hsz : 1 ≤ n ∧ n ≤ 120
  · obtain ⟨g1, g2⟩ := hsz
    have e1 : decide ((n : Int) < 1) = false := by simp; omega
    have e2 : decide ((120 : Int) < n) = false := by simp; omega
    go_enter Tryd.func54, Tryd.ntmps54
    go_wp2
    go_loopw [15] (fun i wr => ∃ k : Nat, k ≤ n ∧ i = .int .i64 k ∧ Hid ((ps.zipIdx.take k).all (fun q => ptB q.1 q.2) = true) ∧ Below w.heap.size w wr) (fun i _ => n - (intOf i).toNat)
    case atStart => exact ⟨0, by omega, rfl, by simp [Hid], Below.refl _ _⟩
    case round =>
      obtain ⟨k, hk, rfl, hall, hbel⟩ := hrel
      by_cases hlt : k < n
      · have hR := (HR.out.below hbel).pt hlt
        obtain ⟨b, off, p, rfl, hb, hp, hpl, c0, c1, c2, c3, c4, c5, c6⟩ := hR
        have HP : Hid (ps.zipIdx[k]? = some (p, k)) := by show _ = _; rw [List.getElem?_zipIdx, hp]; simp
        have HPL := Lib.hid hpl
        clear hp hpl
        go_wp2_with (go_at_call 102; refine (pointOk_c p k _).mono ?_; rintro e w1 ⟨rfl, b1⟩; have hb1 := below_on hbel (by go_grown) b1; clear b1)
        · go_returns
          refine ⟨retv ?_, hb1⟩
          go_light
          rename (_ = true) => h
          have := all_false (fun q : Pt × Nat => ptB q.1 q.2) ps.zipIdx k (p, k) HP.out (by simpa using h)
          simp [graphB, this]
        · go_roundw
          case rel =>
            go_light
            rename (_ = false) => h
            exact ⟨k + 1, by omega, by go_num, by show _ = true; rw [take_all _ _ _ _ HP.out]; have := hall.out; simp_all, hb1⟩
          case measure => simp [intOf]; omega
      · go_wp2
        go_returns
        go_light
        have h2 := hall.out
        rw [List.take_of_length_le (by have := HL.out; simp; omega)] at h2
        exact ⟨by simp [graphB, h2, HL.out]; omega, hbel⟩
  · have HB : Hid (graphB ps = false) := by show _ = _; have := HL.out; simp [graphB]; intro h1 h2; omega
    by_cases hz : n < 1
    · go_enter Tryd.func54, Tryd.ntmps54
      go_wp2
      all_goals (go_returns; exact ⟨by rw [HB.out]; rfl, by go_grown⟩)
    · have h120 : 120 < n := by omega
      go_enter Tryd.func54, Tryd.ntmps54
      go_wp2
      all_goals (go_returns; exact ⟨by rw [HB.out]; rfl, by go_grown⟩)
end Go.Proofs.YtljgaepgblakhaaDoor
