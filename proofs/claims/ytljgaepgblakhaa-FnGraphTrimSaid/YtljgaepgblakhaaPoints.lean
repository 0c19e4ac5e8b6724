/- Contracts of the reference's lists of points. Conditions: each contract's own. -/
import Derived.Test.YtljgaepgblakhaaPtEq
import Derived.Test.YtljgaepgblakhaaTrim
import Derived.Deep.RegionLaw
import Derived.Deep.AppendLies
import Derived.Deep.LoopGhost
import Derived.Deep.QuietTactic
import Derived.BigQuiet
import Derived.Deep.DeepCutAuto
import Derived.Deep.DrawnRows
namespace Go.Proofs.Ytljgaepgblakhaa
set_option linter.unusedSimpArgs false
open Go.RowKit
set_option linter.unusedVariables false
set_option linter.unnecessarySimpa false
theorem gn_row {w w' : World} (h : w.grownBy w' none) (row : Option Nat) : w.grownBy w' row := ⟨h.os, h.tape, h.output, h.size, fun k hk _ => h.block k hk (by simp)⟩
theorem gn_drew {w w' : World} {row : Option Nat} (h : w.grownBy w' row) : w.grownBy w'.drew row := ⟨h.os, h.tape, h.output, h.size, h.block⟩
theorem gn_drewN {w w' : World} {row : Option Nat} (h : w.grownBy w' row) (n : Nat) : w.grownBy (w'.drewN n) row := ⟨h.os, h.tape, h.output, h.size, h.block⟩
theorem gn_alloc {w w' : World} {row : Option Nat} (h : w.grownBy w' row) (o : Obj) : w.grownBy (w'.alloc o) row := h.trans (World.grownBy_alloc w' o row)
theorem gn_set {w w' : World} {row : Option Nat} (h : w.grownBy w' row) {p : Addr} (hp : row = some p.block ∨ w.heap.size ≤ p.block) (u : Value) : w.grownBy (w'.setCell p u) row :=
  ⟨h.os, h.tape, h.output, by simpa using h.size, fun i hi hne => (heap_setCell_other w' p i u (by
    intro e
    rcases hp with hp | hp
    · exact hne (by rw [hp, e])
    · omega)).trans (h.block i hi hne)⟩
theorem own_dN {w : World} {base e size n : Nat} {v : Value} {xs : List Value} (h : w.ownsRow base e size v n xs) (k : Nat) : (w.drewN k).ownsRow base e size v n xs := h
theorem blk_dN {w : World} {g t : Nat} {cs : List Value} (h : Blk w g t cs) (k : Nat) : Blk (w.drewN k) g t cs := h
/-- The call returns points of its own, or the ones that it was given, and a place; it has turned nothing but the given points' own row. -/
def RetIns (base E : Nat) (v0 : Value) (ps : List Pt) (at_ : Int) (w : World) (e : Ending) (w' : World) : Prop :=
  ∃ A c, e = .returned (.tuple #[.slice A ps.length c, .int .i64 at_]) ∧ w'.ownsRow base E 7 (.slice A ps.length c) ps.length (pts ps) ∧ w.grownBy w' v0.ownBlock ∧ (∀ b, (Value.slice A ps.length c).ownBlock = some b → v0.ownBlock = some b ∨ w.heap.size ≤ b)
theorem ob_eq (A : Option Addr) (n c m d : Nat) : (Value.slice A n c).ownBlock = (Value.slice A m d).ownBlock := by cases A <;> rfl
theorem pts_add (ps : List Pt) (x : Pt) : pts (ps ++ [x]) = pts ps ++ x.cells := by simp [pts]
theorem seven_cells (w : World) (t g : Nat) (x : Pt) (hg : g = w.heap.size) : ∀ j u, x.cells[j]? = some u → (w.alloc (.cells x.cells.toArray t)).cell? ((⟨g, 0, none⟩ : Addr).add j) = some u :=
  fun j u hu => by subst hg; rw [add_zero_block]; exact (Blk.new w t x.cells).cell hu
set_option maxHeartbeats 1600000 in
set_option maxRecDepth 100000 in
theorem l4Point_c (A : Option Addr) (n c : Nat) (ps : List Pt) (x : Pt) (base : Nat) (w : World) (h : w.ownsRow base 29 7 (.slice A n c) n (pts ps)) (hb : base ≤ w.heap.size) (hn : n ≤ 1000) :
    Calls Try.prog 29 #[.slice A n c, ptV x] w (RetIns base 29 (.slice A n c) (ins ps x) (ps.idxOf x : Nat) w) := by
  obtain ⟨i0, hi0, hz0, hz1, hz2⟩ := info_parts info_point
  have hl : ps.length = n := by have := h.1; rw [pts_len] at this; omega
  have H0 := Lib.hid h
  have HL := Lib.hid hl
  clear h hl
  obtain ⟨v, f, m, op, a, y, z⟩ := x
  unfold ptV
  go_enter Try.func29, Try.ntmps29
  go_wp2
  have HX := Lib.hid (Blk.new w 29 (Pt.cells ⟨v, f, m, op, a, y, z⟩))
  have HW := Lib.hid (H0.out.alloc (.cells (Pt.cells ⟨v, f, m, op, a, y, z⟩).toArray 29))
  have HG := Lib.hid (World.grownBy_alloc w (.cells (Pt.cells ⟨v, f, m, op, a, y, z⟩).toArray 29) none)
  go_loopg [6] n (fun gk i wr => ∃ k : Nat, gk + k = n ∧ i = .int .i64 k ∧ Hid (∀ j, j < k → ps[j]? ≠ some ⟨v, f, m, op, a, y, z⟩) ∧ Hid (Blk wr w.heap.size 29 (Pt.cells ⟨v, f, m, op, a, y, z⟩)) ∧ Hid (wr.ownsRow base 29 7 (.slice A n c) n (pts ps)) ∧ Hid (w.grownBy wr none))
  case atStart => exact ⟨0, rfl, rfl, Lib.hid (fun j hj => absurd hj (by omega)), HX, HW, HG⟩
  case round =>
    obtain ⟨k, hgk, rfl, HN, HX, HO, HG⟩ := hrel
    have x0 := HX.out.cell (i := 0) rfl
    have x1 := HX.out.cell (i := 1) rfl
    have x2 := HX.out.cell (i := 2) rfl
    have x3 := HX.out.cell (i := 3) rfl
    have x4 := HX.out.cell (i := 4) rfl
    have x5 := HX.out.cell (i := 5) rfl
    have x6 := HX.out.cell (i := 6) rfl
    by_cases hk : k < n
    · obtain ⟨gk, rfl⟩ : ∃ m, gk = m + 1 := ⟨gk - 1, by omega⟩
      obtain ⟨b, off, p, rfl, hb, hp, hpl, c0, c1, c2, c3, c4, c5, c6⟩ := (Rd.of_own HO.out).pt hk
      have HP := Lib.hid hp
      clear hp hpl
      by_cases hpx : p = ⟨v, f, m, op, a, y, z⟩
      · subst hpx
        go_wp2
        go_quiet (fail)
        go_wp2
        go_returns
        have hi := idx_first HN.out HP.out
        rw [show ins ps ⟨v, f, m, op, a, y, z⟩ = ps from if_pos hi.2, hi.1]
        refine ⟨some ⟨b, off, none⟩, c, by rw [HL.out]; rfl, ?_, gn_drewN (gn_row HG.out _) _, fun b' hb' => .inl hb'⟩
        rw [HL.out]; exact own_dN HO.out _
      · have he : ∀ W, (Op.equalIn 10000 29 (.agg #[.int .i64 p.v, .int .i64 p.f, .int .i64 p.m, .int .i64 p.op, .int .i64 p.x, .int .i64 p.y, .int .i64 p.n]) (.agg #[.int .i64 v, .int .i64 f, .int .i64 m, .int .i64 op, .int .i64 a, .int .i64 y, .int .i64 z])).run Try.prog W = .ok false W := fun W => by
          have := eqPt_run p ⟨v, f, m, op, a, y, z⟩ W
          have hne : ptEq p ⟨v, f, m, op, a, y, z⟩ = false := by
            cases h : ptEq p ⟨v, f, m, op, a, y, z⟩ with
            | false => rfl
            | true => exact absurd (ptEq_iff.1 h) hpx
          rw [hne] at this
          exact this
        go_wp2
        go_quiet (fail)
        go_wp2
        go_roundg gk
        case measure => omega
        case rel =>
          go_light
          refine ⟨k + 1, by omega, by go_num, ?_, blk_dN HX.out _, own_dN HO.out _, gn_drewN HG.out _⟩
          show ∀ j, _
          intro j hj
          by_cases hjk : j = k
          · subst hjk
            rw [HP.out]
            exact fun e => hpx (by injection e)
          · exact HN.out j (by omega)
    · obtain rfl : k = n := by omega
      go_wp2_with (at_builtin; refine wpList_append_lies _ rfl _ _ 23 rfl base 29 i0 _ 7 56 Try.underlying23 hi0 hz0 hz1 hz2 rfl (by omega) (.slice A k c) k (pts ps) rfl (HO.out.alloc _) ⟨wr.heap.size, 0, none⟩ 1 1 (Pt.cells ⟨v, f, m, op, a, y, z⟩) rfl rfl (seven_cells wr 29 wr.heap.size ⟨v, f, m, op, a, y, z⟩ rfl) (by simp [Pt.cells, Value.oneCell']) (by omega) (by unfold maxLen; omega) (by omega) (by have := HG.out.size; simp; omega) _ rfl ?_; intro gg capg w5 hown5 hgr5 hat5 hlt5)
      go_wp2
      go_returns
      have hi := idx_none (x := ⟨v, f, m, op, a, y, z⟩) (fun j hj => HN.out j (by rw [HL.out] at hj; exact hj))
      have hz5 := HG.out.size
      have O5 := hown5
      rw [← pts_add] at O5
      rw [show ins ps ⟨v, f, m, op, a, y, z⟩ = ps ++ [⟨v, f, m, op, a, y, z⟩] from if_neg hi.1, hi.2]
      have hl1 : (ps ++ [(⟨v, f, m, op, a, y, z⟩ : Pt)]).length = k + 1 := by rw [List.length_append, HL.out]; rfl
      refine ⟨some ⟨gg, 0, none⟩, capg, by rw [hl1, HL.out]; rfl, ?_, (gn_alloc (gn_row HG.out _) _).trans hgr5, fun b' hb' => ?_⟩
      · rw [hl1]; exact O5
      · have : gg = b' := by injection hb'
        subst this
        rcases hat5 with h | h
        · exact .inl h
        · right; simp at h; omega
theorem l4Look_c (A : Option Addr) (n c : Nat) (ps : List Pt) (x : Pt) (hv : x.v = 0) (base : Nat) (w : World) (h : w.ownsRow base 29 7 (.slice A n c) n (pts ps)) (hb : base ≤ w.heap.size) (hn : n ≤ 1000) :
    Calls Try.prog 28 #[.slice A n c, .int .i64 x.f, .int .i64 x.m, .int .i64 x.op, .int .i64 x.x, .int .i64 x.y, .int .i64 x.n] w (RetIns base 29 (.slice A n c) (look ps x).1 (look ps x).2 w) := by
  have hl : ps.length = n := by have := h.1; rw [pts_len] at this; omega
  obtain ⟨v, f, m, op, a, y, z⟩ := x
  simp only at hv
  subst hv
  have HO := Lib.hid h
  have HL := Lib.hid hl
  clear h hl
  by_cases hyz : y = z
  · subst hyz
    have HE : Hid (look ps ⟨0, f, m, op, a, y, y⟩ = (ps, y)) := by show _ = _; unfold look; rw [if_pos rfl]
    go_enter Try.func28, Try.ntmps28
    go_wp2
    go_returns
    rw [HE.out]
    refine ⟨A, c, by rw [HL.out]; rfl, ?_, World.grownBy.refl _ _, fun b' hb' => .inl ((ob_eq A n c _ c).trans hb')⟩
    rw [HL.out]; exact HO.out
  · have HE : Hid (look ps ⟨0, f, m, op, a, y, z⟩ = (ins ps ⟨0, f, m, op, a, y, z⟩, ((ps.idxOf ⟨0, f, m, op, a, y, z⟩ : Nat) : Int))) := by show _ = _; unfold look; rw [if_neg hyz]
    have HC := Lib.hid (l4Point_c A n c ps ⟨0, f, m, op, a, y, z⟩ base w HO.out hb hn)
    rw [HE.out]
    generalize ins ps ⟨0, f, m, op, a, y, z⟩ = R at *
    generalize ((ps.idxOf ⟨0, f, m, op, a, y, z⟩ : Nat) : Int) = I at *
    go_enter Try.func28, Try.ntmps28
    go_wp2_with fail
    refine HC.out.mono ?_
    rintro e w1 ⟨A1, c1, rfl, h1, h2, h3⟩
    have H1 := Lib.hid h1
    have H2 := Lib.hid h2
    have H3 := Lib.hid h3
    clear h1 h2 h3
    go_wp2
    go_returns
    exact ⟨A1, c1, rfl, H1.out, H2.out, H3.out⟩
end Go.Proofs.Ytljgaepgblakhaa
