/- Which points are led to: both sides. Conditions: each contract's own. -/
import Derived.Test.YtljgaepgblakhaaPoints
namespace Go.Proofs.Ytljgaepgblakhaa
set_option linter.unusedSimpArgs false
open Go.RowKit
set_option linter.unusedVariables false
set_option linter.unnecessarySimpa false
def bools (U : List Bool) : List Value := U.map Value.bool
theorem bools_len (U : List Bool) : (bools U).length = U.length := by simp [bools]
theorem bools_at {U : List Bool} {k : Nat} {b : Bool} (h : U[k]? = some b) : (bools U)[k]? = some (.bool b) := by simp [bools, h]
theorem bools_set (U : List Bool) (k : Nat) (b : Bool) : (bools U).set k (.bool b) = bools (U.set k b) := by simp [bools, List.map_set]
theorem bgetD {U : List Bool} {k : Nat} {b : Bool} (h : U[k]? = some b) : U.getD k false = b := by simp [List.getD, h]
theorem mark_no {g : List Pt} {k : Nat} {U : List Bool} (h : U[k]? = some false) : markAt g k U = U := by
  unfold markAt; split
  · rw [bgetD h]; simp
  · rfl
theorem mark_leaf {g : List Pt} {k : Nat} {U : List Bool} {p : Pt} (h : g[k]? = some p) (h0 : p.op = 0) : markAt g k U = U := by
  unfold markAt; rw [h]; simp [h0]
theorem mark_look {g : List Pt} {k : Nat} {U : List Bool} {p : Pt} (h : g[k]? = some p) (h0 : p.op ≠ 0) (hU : U[k]? = some true) {y n : Nat} (hy : p.y = y) (hn : p.n = n) : markAt g k U = (U.set y true).set n true := by
  unfold markAt; rw [h]
  simp only
  rw [if_pos ⟨bgetD hU, h0⟩, hy, hn]; simp
theorem info_bool : (Try.prog.info? 4).map (fun i => (i.zero, i.size, i.bytes)) = some (some (.bool false), 1, 1) := by kernel_rfl
set_option maxHeartbeats 1600000 in
set_option maxRecDepth 100000 in
theorem l4Used_c (A : Option Addr) (n c : Nat) (g : List Pt) (a : Nat) (w : World) (hr : Rd w w.heap.size 7 A n (pts g)) (hg : GOk g) (ha : a < n) :
    Calls Try.prog 27 #[.slice A n c, .int .i64 a] w (RetOwn 4 1 n (bools (usedF g a)) w) := by
  obtain ⟨i0, hi, hz0, hz1, hz2⟩ := info_parts info_bool
  have hl : g.length = n := by have := hr.1; rw [pts_len] at this; omega
  have hn : n ≤ 120 := by have := hg.1; omega
  have HR := Lib.hid hr
  have HG := Lib.hid hg
  have HL := Lib.hid hl
  clear hr hg hl
  obtain ⟨R, hR⟩ : ∃ R, R = usedF g a := ⟨_, rfl⟩
  rw [← hR]
  have HU0 : Hid (markAll g (a + 1) ((List.replicate n false).set a true) = R) := by
    show _ = _
    rw [hR, usedF, HL.out]
  have HRL : Hid (R.length = n) := by show _ = _; rw [hR, usedF_len, HL.out]
  clear hR
  go_enter Try.func27, Try.ntmps27
  go_wp2_with (at_make; refine wpList_make_full _ rfl _ _ 59 rfl w.heap.size 4 i0 _ 1 Try.underlying59 hi hz0 hz1 .i64 .i64 (n : Int) (n : Int) n rfl rfl rfl rfl ?b2 ?b3 ?b4 ?_)
  case b2 => rw [hz2]; omega
  case b3 => unfold maxLen; omega
  case b4 => exact Nat.le_refl _
  intro w0 hown0 hg0
  have hb0 : Below w.heap.size w w0 := (Below.refl _ _).grown hg0 (Nat.le_refl _) (by simp)
  have ho : w0.ownsRow w.heap.size 4 1 (.slice (some ⟨w.heap.size, 0, none⟩) n n) n (bools (List.replicate n false)) := by
    have e : (madeCells #[Value.bool false] n).toList = bools (List.replicate n false) := by
      rw [toList_madeCells_one]; simp [bools]
    rw [← e]; exact hown0
  have HO0 := Lib.hid ho
  have HB0 := Lib.hid hb0
  clear hown0 hg0 hi hz0 hz1 hz2 ho hb0
  obtain ⟨y0, hy0⟩ := some_at HO0.out.1 (k := a) (by omega)
  have ca := (HO0.out.cellAt a (by omega)).trans hy0
  have cf := fun i => HO0.out.frozenAt i
  clear hy0
  go_wp2
  go_loopg [6] (a + 1) (fun gk i wr => i = .int .i64 ((gk : Int) - 1) ∧ gk ≤ a + 1 ∧ ∃ U : List Bool, Hid (U.length = n) ∧ Hid (markAll g gk U = R) ∧ Hid (wr.ownsRow w.heap.size 4 1 (.slice (some ⟨w.heap.size, 0, none⟩) n n) n (bools U)) ∧ Hid (Below w.heap.size w wr))
  case atStart => exact ⟨by go_num, by omega, (List.replicate n false).set a true, Lib.hid (by simp), HU0, by have := (HO0.out.stored a (.bool true)).1; rw [bools_set] at this; exact this, HB0.out.setCell (Nat.le_refl _) _⟩
  case round =>
    obtain ⟨rfl, hga, U, HUL, HM, HO, HBe⟩ := hrel
    by_cases hk : 0 < gk
    · obtain ⟨j, rfl⟩ : ∃ m, gk = m + 1 := ⟨gk - 1, by omega⟩
      obtain ⟨b0, off, p, rfl, hb, hp, hpl, c0, c1, c2, c3, c4, c5, c6⟩ := (HR.out.below HBe.out).pt (k := j) (by omega)
      obtain ⟨b, hb'⟩ := some_at HUL.out (k := j) (by omega)
      have cu := (HO.out.cellAt j (by omega)).trans (bools_at hb')
      have cfu := fun i => HO.out.frozenAt i
      have hpo := HG.out.2 j p hp
      have HP := Lib.hid hp
      have HU := Lib.hid hb'
      unfold smallP smallI at hpo
      have ej : (((j + 1 : Nat) : Int) - 1) = (j : Int) := by omega
      rw [ej]
      cases b with
      | false =>
        have HE : Hid (markAll g j U = R) := by show _ = _; rw [← HM.out, markAll, mark_no HU.out]
        clear hpo hp hb'
        go_wp2
        go_roundg j
        case measure => omega
        case rel =>
          go_light
          exact ⟨by go_num, by omega, U, HUL, HE, HO, HBe⟩
      | true =>
        by_cases h0 : p.op = 0
        · have HE : Hid (markAll g j U = R) := by show _ = _; rw [← HM.out, markAll, mark_leaf HP.out h0]
          rw [h0] at c3
          clear hpo hp hb'
          go_wp2
          go_roundg j
          case measure => omega
          case rel =>
            go_light
            exact ⟨by go_num, by omega, U, HUL, HE, HO, HBe⟩
        · have hop : 0 < p.op := by omega
          obtain ⟨yn, hyn⟩ := Int.eq_ofNat_of_zero_le (a := p.y) (by omega)
          obtain ⟨nn, hnn⟩ := Int.eq_ofNat_of_zero_le (a := p.n) (by omega)
          have hyl : yn < n := by omega
          have hnl : nn < n := by omega
          have HE : Hid (markAll g j ((U.set yn true).set nn true) = R) := by show _ = _; rw [← HM.out, markAll, mark_look HP.out h0 HU.out hyn hnn]
          obtain ⟨u1, hu1⟩ := some_at HUL.out hyl
          obtain ⟨u2, hu2⟩ := some_at HUL.out hnl
          have cy := (HO.out.cellAt yn (by omega)).trans (bools_at hu1)
          have cn := (HO.out.cellAt nn (by omega)).trans (bools_at hu2)
          obtain ⟨v2, hv2⟩ : ∃ v, (wr.setCell ⟨w.heap.size, yn, none⟩ (.bool true)).cell? ⟨w.heap.size, nn, none⟩ = some v := by
            obtain ⟨z, hz⟩ := some_at (HO.out.stored yn (.bool true)).1.1 (k := nn) (by omega)
            exact ⟨z, ((HO.out.stored yn (.bool true)).1.cellAt nn (by omega)).trans hz⟩
          rw [hyn] at c5
          rw [hnn] at c6
          have hne : b0 ≠ w.heap.size := by omega
          clear hpo hp hb' hu1 hu2
          go_wp2
          go_roundg j
          case measure => omega
          case rel =>
            go_light
            refine ⟨by go_num, by omega, (U.set yn true).set nn true, Lib.hid (by simp; exact HUL.out), HE, ?_, (HBe.out.setCell (Nat.le_refl _) _).setCell (Nat.le_refl _) _⟩
            have := ((HO.out.stored yn (.bool true)).1.stored nn (.bool true)).1
            rw [bools_set, bools_set] at this
            exact this
    · obtain rfl : gk = 0 := by omega
      have he : U = R := HM.out
      subst he
      go_wp2
      go_returns
      exact ⟨_, _, rfl, HO.out, HBe.out⟩
set_option maxHeartbeats 1600000 in
set_option maxRecDepth 100000 in
theorem pointsFrom_c (A : Option Addr) (n c : Nat) (g : List Pt) (a : Nat) (w : World) (hr : Rd w w.heap.size 7 A n (pts g)) (hg : GOk g) (ha : a < n) :
    Calls Try.prog 37 #[.slice A n c, .int .i64 a] w (RetOwn 4 1 n (bools (usedF g a)) w) := by
  obtain ⟨i0, hi, hz0, hz1, hz2⟩ := info_parts info_bool
  have hl : g.length = n := by have := hr.1; rw [pts_len] at this; omega
  have hn : n ≤ 120 := by have := hg.1; omega
  have HR := Lib.hid hr
  have HG := Lib.hid hg
  have HL := Lib.hid hl
  clear hr hg hl
  obtain ⟨R, hR⟩ : ∃ R, R = usedF g a := ⟨_, rfl⟩
  rw [← hR]
  have HU0 : Hid (markAll g (a + 1) ((List.replicate n false).set a true) = R) := by
    show _ = _
    rw [hR, usedF, HL.out]
  have HRL : Hid (R.length = n) := by show _ = _; rw [hR, usedF_len, HL.out]
  clear hR
  go_enter Try.func37, Try.ntmps37
  go_wp2_with (at_make; refine wpList_make_full _ rfl _ _ 59 rfl w.heap.size 4 i0 _ 1 Try.underlying59 hi hz0 hz1 .i64 .i64 (n : Int) (n : Int) n rfl rfl rfl rfl ?b2 ?b3 ?b4 ?_)
  case b2 => rw [hz2]; omega
  case b3 => unfold maxLen; omega
  case b4 => exact Nat.le_refl _
  intro w0 hown0 hg0
  have hb0 : Below w.heap.size w w0 := (Below.refl _ _).grown hg0 (Nat.le_refl _) (by simp)
  have ho : w0.ownsRow w.heap.size 4 1 (.slice (some ⟨w.heap.size, 0, none⟩) n n) n (bools (List.replicate n false)) := by
    have e : (madeCells #[Value.bool false] n).toList = bools (List.replicate n false) := by
      rw [toList_madeCells_one]; simp [bools]
    rw [← e]; exact hown0
  have HO0 := Lib.hid ho
  have HB0 := Lib.hid hb0
  clear hown0 hg0 hi hz0 hz1 hz2 ho hb0
  obtain ⟨y0, hy0⟩ := some_at HO0.out.1 (k := a) (by omega)
  have ca := (HO0.out.cellAt a (by omega)).trans hy0
  have cf := fun i => HO0.out.frozenAt i
  clear hy0
  go_wp2
  go_loopg [6] (a + 1) (fun gk i wr => i = .int .i64 ((gk : Int) - 1) ∧ gk ≤ a + 1 ∧ ∃ U : List Bool, Hid (U.length = n) ∧ Hid (markAll g gk U = R) ∧ Hid (wr.ownsRow w.heap.size 4 1 (.slice (some ⟨w.heap.size, 0, none⟩) n n) n (bools U)) ∧ Hid (Below w.heap.size w wr))
  case atStart => exact ⟨by go_num, by omega, (List.replicate n false).set a true, Lib.hid (by simp), HU0, by have := (HO0.out.stored a (.bool true)).1; rw [bools_set] at this; exact this, HB0.out.setCell (Nat.le_refl _) _⟩
  case round =>
    obtain ⟨rfl, hga, U, HUL, HM, HO, HBe⟩ := hrel
    have hbs := HBe.out.size
    have hol : w.heap.size < wr.heap.size := (HO.out.lt w.heap.size rfl).2
    by_cases hk : 0 < gk
    · obtain ⟨j, rfl⟩ : ∃ m, gk = m + 1 := ⟨gk - 1, by omega⟩
      obtain ⟨b0, off, p, rfl, hb, hp, hpl, c0, c1, c2, c3, c4, c5, c6⟩ := (HR.out.below HBe.out).pt (k := j) (by omega)
      obtain ⟨b, hb'⟩ := some_at HUL.out (k := j) (by omega)
      have cu := (HO.out.cellAt j (by omega)).trans (bools_at hb')
      have cfu := fun i => HO.out.frozenAt i
      have hpo := HG.out.2 j p hp
      have HP := Lib.hid hp
      have HU := Lib.hid hb'
      unfold smallP smallI at hpo
      have ej : (((j + 1 : Nat) : Int) - 1) = (j : Int) := by omega
      rw [ej]
      cases b with
      | false =>
        have HE : Hid (markAll g j U = R) := by show _ = _; rw [← HM.out, markAll, mark_no HU.out]
        clear hpo hp hb'
        go_wp2
        go_roundg j
        case measure => omega
        case rel =>
          go_light
          exact ⟨by go_num, by omega, U, HUL, HE, HO.out.alloc _, HBe.out.alloc hbs _⟩
      | true =>
        by_cases h0 : p.op = 0
        · have HE : Hid (markAll g j U = R) := by show _ = _; rw [← HM.out, markAll, mark_leaf HP.out h0]
          rw [h0] at c3
          clear hpo hp hb'
          go_wp2
          go_roundg j
          case measure => omega
          case rel =>
            go_light
            exact ⟨by go_num, by omega, U, HUL, HE, HO.out.alloc _, HBe.out.alloc hbs _⟩
        · have hop : (p.op == 0) = false := by simp [h0]
          obtain ⟨yn, hyn⟩ := Int.eq_ofNat_of_zero_le (a := p.y) (by omega)
          obtain ⟨nn, hnn⟩ := Int.eq_ofNat_of_zero_le (a := p.n) (by omega)
          have hyl : yn < n := by omega
          have hnl : nn < n := by omega
          have HE : Hid (markAll g j ((U.set yn true).set nn true) = R) := by show _ = _; rw [← HM.out, markAll, mark_look HP.out h0 HU.out hyn hnn]
          obtain ⟨u1, hu1⟩ := some_at HUL.out hyl
          obtain ⟨u2, hu2⟩ := some_at HUL.out hnl
          have cy := (HO.out.cellAt yn (by omega)).trans (bools_at hu1)
          have cn := (HO.out.cellAt nn (by omega)).trans (bools_at hu2)
          rw [hyn] at c5
          rw [hnn] at c6
          obtain ⟨v2, hv2⟩ : ∃ v, (wr.setCell ⟨w.heap.size, yn, none⟩ (.bool true)).cell? ⟨w.heap.size, nn, none⟩ = some v := by
            obtain ⟨z, hz⟩ := some_at (HO.out.stored yn (.bool true)).1.1 (k := nn) (by omega)
            exact ⟨z, ((HO.out.stored yn (.bool true)).1.cellAt nn (by omega)).trans hz⟩
          have hne : b0 ≠ w.heap.size := by omega
          clear hpo hp hb' hu1 hu2
          go_wp2
          go_roundg j
          case measure => omega
          case rel =>
            go_light
            refine ⟨by go_num, by omega, (U.set yn true).set nn true, Lib.hid (by simp; exact HUL.out), HE, ?_, ((HBe.out.setCell (p := ⟨w.heap.size, yn, none⟩) (Nat.le_refl _) (.bool true)).setCell (p := ⟨w.heap.size, nn, none⟩) (Nat.le_refl _) (.bool true)).alloc (by simp; omega) _⟩
            have := ((HO.out.stored yn (.bool true)).1.stored nn (.bool true)).1
            rw [bools_set, bools_set] at this
            exact this.alloc _
    · obtain rfl : gk = 0 := by omega
      have he : U = R := HM.out
      subst he
      go_wp2
      go_returns
      exact ⟨_, _, rfl, HO.out, HBe.out⟩
end Go.Proofs.Ytljgaepgblakhaa
