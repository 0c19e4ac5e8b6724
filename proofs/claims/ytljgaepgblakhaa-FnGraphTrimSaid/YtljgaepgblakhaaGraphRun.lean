/- GraphRun on both sides. Conditions: each contract's own. -/
import Derived.Test.YtljgaepgblakhaaGraph2
import Derived.Test.YtljgaepgblakhaaTest
import Derived.Deep.LoopGhost
namespace Go.Proofs.Ytljgaepgblakhaa
set_option linter.unusedSimpArgs false
open Go.RowKit
set_option linter.unusedVariables false
def lookB (p : Pt) (num : Int) (xs : List Int) : Bool := holdsB p.op (bits .and .i64 (fieldV num xs p.f) p.m) p.x
theorem Blk.setCells {w : World} {g t : Nat} {cs : List Value} (h : Blk w g t cs) (o : Nat) (l : List Value) : Blk (setCells w g o l) g t (setL cs o l) := by
  induction l generalizing w cs o with
  | nil => exact h
  | cons c l ih => exact ih (h.set_ o c) (o + 1)
theorem setCells_far (w : World) (g o : Nat) (l : List Value) (p : Addr) (hp : p.block ≠ g) : (setCells w g o l).cell? p = w.cell? p := by
  induction l generalizing w o with
  | nil => rfl
  | cons c l ih =>
    rw [_root_.Go.Proofs.Ytljgaepgblakhaa.setCells, ih]
    exact World.cell?_of_block (heap_setCell_other w ⟨g, o, none⟩ p.block c hp)
/-- What becomes of a call from place i on. -/
def runF (ps : List Pt) (num : Int) (xs : List Int) : Nat → Nat → Int
  | 0, _ => 4
  | k + 1, i => match ps[i]? with
    | none => 4
    | some p => if p.op = 0 then p.v else if lookB p num xs then runF ps num xs k p.y.toNat else runF ps num xs k p.n.toNat
def runAt (ps : List Pt) (num : Int) (xs : List Int) (i : Nat) : Int := runF ps num xs (i + 1) i
def graphRunV (ps : List Pt) (num : Int) (xs : List Int) : Int := if graphB ps && callB num xs then runAt ps num xs (ps.length - 1) else 4
theorem graphB_at {ps : List Pt} (h : graphB ps = true) {i : Nat} {p : Pt} (hp : ps[i]? = some p) : ptB p i = true := by
  simp only [graphB, Bool.and_eq_true, List.all_eq_true] at h
  exact h.2 (p, i) (List.mem_of_getElem? (i := i) (by rw [List.getElem?_zipIdx, hp]; simp))
theorem graphB_len {ps : List Pt} (h : graphB ps = true) : 1 ≤ ps.length ∧ ps.length ≤ 120 := by
  simp only [graphB, Bool.and_eq_true, decide_eq_true_eq] at h
  exact h.1
theorem ptB_look {p : Pt} {i : Int} (h : ptB p i = true) (h0 : p.op ≠ 0) : (p.op = 1 ∨ p.op = 3) ∧ 0 ≤ p.f ∧ p.f ≤ 4 ∧ 1 ≤ p.m ∧ p.m ≤ 4294967295 ∧ 0 ≤ p.x ∧ p.x ≤ 4294967295 ∧ 0 ≤ p.y ∧ p.y < i ∧ 0 ≤ p.n ∧ p.n < i := by
  rw [ptB, if_neg h0] at h
  simp [wordB] at h
  omega
theorem runF_more {ps : List Pt} (h : graphB ps = true) (num : Int) (xs : List Int) (i : Nat) : ∀ k, i < k → runF ps num xs k i = runAt ps num xs i := by
  induction i using Nat.strongRecOn with
  | ind i ih =>
    intro k hk
    obtain ⟨k, rfl⟩ : ∃ k', k = k' + 1 := ⟨k - 1, by omega⟩
    unfold runAt
    rw [runF, runF]
    cases hp : ps[i]? with
    | none => rfl
    | some p =>
      by_cases h0 : p.op = 0
      · simp [h0]
      · obtain ⟨_, _, _, _, _, _, _, h1, h2, h3, h4⟩ := ptB_look (graphB_at h hp) h0
        simp only [if_neg h0]
        rw [ih p.y.toNat (by omega) k (by omega), ih p.y.toNat (by omega) i (by omega), ih p.n.toNat (by omega) k (by omega), ih p.n.toNat (by omega) i (by omega)]
theorem runAt_leaf {ps : List Pt} {num : Int} {xs : List Int} {i : Nat} {p : Pt} (hp : ps[i]? = some p) (h0 : p.op = 0) : runAt ps num xs i = p.v := by
  unfold runAt; rw [runF]; simp [hp, h0]
theorem runAt_look {ps : List Pt} (h : graphB ps = true) {num : Int} {xs : List Int} {i : Nat} {p : Pt} (hp : ps[i]? = some p) (h0 : p.op ≠ 0) :
    runAt ps num xs i = if lookB p num xs then runAt ps num xs p.y.toNat else runAt ps num xs p.n.toNat := by
  obtain ⟨_, _, _, _, _, _, _, h1, h2, h3, h4⟩ := ptB_look (graphB_at h hp) h0
  rw [runAt, runF, hp]
  simp only [if_neg h0]
  rw [runF_more h num xs p.y.toNat i (by omega), runF_more h num xs p.n.toNat i (by omega)]
/-- The seven cells of a point in a block of its own. -/
theorem Blk.pt {w : World} {g t : Nat} {p : Pt} (h : Blk w g t p.cells) : w.cell? ⟨g, 0, none⟩ = some (.int .i64 p.v) ∧ w.cell? ⟨g, 1, none⟩ = some (.int .i64 p.f) ∧ w.cell? ⟨g, 2, none⟩ = some (.int .i64 p.m) ∧ w.cell? ⟨g, 3, none⟩ = some (.int .i64 p.op) ∧
    w.cell? ⟨g, 4, none⟩ = some (.int .i64 p.x) ∧ w.cell? ⟨g, 5, none⟩ = some (.int .i64 p.y) ∧ w.cell? ⟨g, 6, none⟩ = some (.int .i64 p.n) ∧ ∀ j, w.frozen? ⟨g, j, none⟩ = false :=
  ⟨h.cell rfl, h.cell rfl, h.cell rfl, h.cell rfl, h.cell rfl, h.cell rfl, h.cell rfl, h.free⟩
theorem graphRun_c (A : Option Addr) (n c : Nat) (ps : List Pt) (num : Int) (B : Option Addr) (m d : Nat) (xs : List Int) (w : World) (hr : Rd w w.heap.size 7 A n (pts ps)) (hn : n ≤ 9223372036854775807)
    (hq : Rd w w.heap.size 1 B m (ints xs)) (hm : m ≤ 9223372036854775807) :
    Calls Try.prog 11 #[.slice A n c, .agg #[.int .i64 num, .slice B m d]] w (RetB (.int .i64 (graphRunV ps num xs)) w) := by
  have HR := Lib.hid hr
  have HQ := Lib.hid hq
  have hl : ps.length = n := by have := hr.1; rw [pts_len] at this; omega
  have HL := Lib.hid hl
  clear hr hq hl
  by_cases hg : graphB ps = true
  · by_cases hc : callB num xs = true
    · have hV : graphRunV ps num xs = runAt ps num xs (ps.length - 1) := by simp [graphRunV, hg, hc]
      have HV := Lib.hid hV
      have HG := Lib.hid hg
      have HM : Hid (m = 4) := by have h1 := HQ.out.len1; rw [ints_len] at h1; have h2 := callB_len hc; show _ = _; omega
      clear hV
      obtain ⟨hl1, hl2⟩ : 1 ≤ n ∧ n ≤ 120 := by have := graphB_len hg; have := HL.out; omega
      obtain ⟨l, rfl⟩ : ∃ l, n = l + 1 := ⟨n - 1, by omega⟩
      have hX := HR.out.pt (show l < l + 1 by omega)
      obtain ⟨b, off, p0, rfl, hb, hp0, _, c0, c1, c2, c3, c4, c5, c6⟩ := hX
      have HP0 := Lib.hid hp0
      clear hp0
      go_enter Try.func11, Try.ntmps11
      go_wp2_with (go_at_call 8; refine (graphOk_c _ _ c ps _ (HR.out.upB (by go_grown) (by go_size)) hn).mono ?_; rintro e w1 ⟨rfl, b1⟩; obtain ⟨gc1, gf1⟩ := below_get b1; (try simp only [heap_drew, World.size_alloc, World.size_setCell] at gc1 gf1); have s1 := below_via (w := w) (by go_grown) b1; have H1 := s1; have hs1 := b1.size; (try simp at hs1); have z1_0 : w.heap.size < w1.heap.size := (by omega); have z1_1 : b < w1.heap.size := (by omega); clear b1)
      go_wp2_with (go_at_call 21; refine (callOk_c num B m d xs _ ((HQ.out.up s1).upB (by go_grown) (by go_size)) hm).mono ?_; rintro e w2 ⟨rfl, b2⟩; obtain ⟨gc2, gf2⟩ := below_get b2; (try simp only [heap_drew, World.size_alloc, World.size_setCell] at gc2 gf2); have s2 := below_via (w := w1) (by go_grown) b2; have H2 := below_via H1 s2; have hs2 := b2.size; (try simp at hs2); have z2_0 : w.heap.size < w2.heap.size := (by omega); have z2_1 : b < w2.heap.size := (by omega); clear b2; have q1 := s2.cell (p := ⟨w.heap.size, 0, none⟩) z1_0; have q2 := s2.cell (p := ⟨w.heap.size, 1, none⟩) z1_0)
      have q1' : w2.cell? ⟨w.heap.size, 0, none⟩ = some (.int .i64 num) := by rw [q1, gc1 _ _ (by omega)]; simp
      have q2' : w2.cell? ⟨w.heap.size, 1, none⟩ = some (.slice B m d) := by rw [q2, gc1 _ _ (by omega)]; simp
      clear gc1 gf1 gc2 gf2 q1 q2 c0 c1 c2 c3 c4 c5 c6 hb
      have hbz : b < w.heap.size := by
        obtain ⟨b', off', e, h, _⟩ := HR.out.2 (by omega)
        injection e with e; injection e with e1 e2; subst e1; exact h
      go_loopg [] l (fun k wr => ∃ p, Hid (ps[k]? = some p) ∧ k ≤ l ∧ Hid (runAt ps num xs k = runAt ps num xs l) ∧ Blk wr w2.heap.size 29 p.cells ∧ wr.cell? ⟨w.heap.size, 0, none⟩ = some (.int .i64 num) ∧ wr.cell? ⟨w.heap.size, 1, none⟩ = some (.slice B m d) ∧ Below w.heap.size w wr)
      case atStart =>
        exact ⟨p0, HP0, Nat.le_refl _, by simp [Hid], Blk.new _ _ p0.cells, by simpa [World.cell?_alloc_lt, z2_0] using q1', by simpa [World.cell?_alloc_lt, z2_0] using q2', by go_grown⟩
      case round =>
        obtain ⟨p, HP, hk, HV2, hblk, r1, r2, hbel⟩ := hrel
        have hbs := hbel.size
        have hlt2 := hblk.lt
        obtain ⟨c0, c1, c2, c3, c4, c5, c6, cf⟩ := hblk.pt
        by_cases h0 : p.op = 0
        · have h0' : (p.op != 0) = false := by simp [h0]
          have H0 := Lib.hid h0
          have HB := Lib.hid hblk
          clear h0 hblk
          go_wp2
          go_returns
          go_light
          refine ⟨retv ?_, hbel⟩
          show Value.int .i64 p.v = _
          rw [HV.out, HL.out, Nat.add_sub_cancel, ← HV2.out, runAt_leaf HP.out H0.out]
        · have h0' : (p.op != 0) = true := by simp [h0]
          obtain ⟨ho, hf0, hf4, hm1, hm2, hx1, hx2, hy1, hy2, hn1, hn2⟩ := ptB_look (graphB_at HG.out HP.out) h0
          clear ho
          have H0 := Lib.hid h0
          have HB := Lib.hid hblk
          clear h0 hblk
          have hY := (HR.out.below hbel).pt (show p.y.toNat < l + 1 by omega)
          have hN := (HR.out.below hbel).pt (show p.n.toNat < l + 1 by omega)
          obtain ⟨b', off', py, e1, hb', hpy, _, u0, u1, u2, u3, u4, u5, u6⟩ := hY
          obtain ⟨b'', off'', pn, e2, hb'', hpn, _, v0, v1, v2, v3, v4, v5, v6⟩ := hN
          simp only [Option.some.injEq, Addr.mk.injEq, and_true] at e1 e2
          obtain ⟨rfl, rfl⟩ := e1
          obtain ⟨rfl, rfl⟩ := e2
          have HPY := Lib.hid hpy
          have HPN := Lib.hid hpn
          clear hpy hpn
          have hbr : b < wr.heap.size := by omega
          have hwr : w.heap.size < wr.heap.size := by omega
          go_wp2
          go_region_held3 (fun w' => w'.cell? ⟨w2.heap.size, 0, none⟩ = some (.int .i64 p.v) ∧ w'.cell? ⟨w2.heap.size, 1, none⟩ = some (.int .i64 p.f) ∧ w'.cell? ⟨w2.heap.size, 2, none⟩ = some (.int .i64 p.m) ∧ w'.cell? ⟨w2.heap.size, 3, none⟩ = some (.int .i64 p.op) ∧ w'.cell? ⟨w2.heap.size, 4, none⟩ = some (.int .i64 p.x) ∧ w'.cell? ⟨w2.heap.size, 5, none⟩ = some (.int .i64 p.y) ∧ w'.cell? ⟨w2.heap.size, 6, none⟩ = some (.int .i64 p.n) ∧ w'.cell? ⟨w.heap.size, 0, none⟩ = some (.int .i64 num) ∧ w'.cell? ⟨w.heap.size, 1, none⟩ = some (.slice B m d)) (simp [go_sem, *])
            (first
             | (go_at_call 23; refine (callField_c num p.f B m d xs _ ((HQ.out.up hbel).upB (by go_grown) (by go_size)) HM.out hf0 hf4).mono ?_; rintro e w3 ⟨rfl, b3⟩; obtain ⟨gc3, gf3⟩ := below_get b3; (try simp only [heap_drew, World.size_alloc, World.size_setCell] at gc3 gf3); have hb3 := below_on hbel (by go_grown) b3; have s3 := below_via (w := wr) (by go_grown) b3; have hs3 := s3.size; clear b3)
             | (go_at_call 22; refine (holds_c _ _ _ _).mono ?_; rintro e w4 ⟨rfl, rfl⟩))
          have HB3 := Lib.hid (HB.out.up s3)
          obtain ⟨t0, t1, t2, t3, t4, t5, t6, tf⟩ := HB3.out.pt
          have k1 : w3.cell? ⟨w.heap.size, 0, none⟩ = some (.int .i64 num) := by simp [gc3, hwr, r1]
          have k2 : w3.cell? ⟨w.heap.size, 1, none⟩ = some (.slice B m d) := by simp [gc3, hwr, r2]
          go_wp2
          · go_roundg p.y.toNat
            case measure => omega
            case rel =>
              go_light
              rename (holdsB _ _ _ = true) => hh
              refine ⟨py, HPY, by omega, ?_, HB3.out.setCells 0 py.cells, (setCells_far w3 _ 0 py.cells _ (by simp; omega)).trans k1, (setCells_far w3 _ 0 py.cells _ (by simp; omega)).trans k2, below_setCells hb3 (by omega) 0 py.cells⟩
              show _ = _
              have hh2 : lookB p num xs = true := hh
              rw [← HV2.out, runAt_look HG.out HP.out H0.out, if_pos hh2]
          · go_roundg p.n.toNat
            case measure => omega
            case rel =>
              go_light
              rename (holdsB _ _ _ = false) => hh
              refine ⟨pn, HPN, by omega, ?_, HB3.out.setCells 0 pn.cells, (setCells_far w3 _ 0 pn.cells _ (by simp; omega)).trans k1, (setCells_far w3 _ 0 pn.cells _ (by simp; omega)).trans k2, below_setCells hb3 (by omega) 0 pn.cells⟩
              show _ = _
              rw [← HV2.out, runAt_look HG.out HP.out H0.out, if_neg (by rw [lookB, hh]; simp)]
    · have hc : callB num xs = false := by simpa using hc
      go_enter Try.func11, Try.ntmps11
      go_wp2_with (go_at_call 8; refine (graphOk_c A n c ps _ (HR.out.upB (by go_grown) (by go_size)) hn).mono ?_; rintro e w1 ⟨rfl, b1⟩; obtain ⟨gc1, gf1⟩ := below_get b1; (try simp only [heap_drew, World.size_alloc, World.size_setCell] at gc1 gf1); have s1 := below_via (w := w) (by go_grown) b1; have H1 := s1; have hs1 := b1.size; (try simp at hs1); have z1_0 : w.heap.size < w1.heap.size := (by omega); clear b1)
      go_wp2_with (go_at_call 21; refine (callOk_c num B m d xs _ ((HQ.out.up s1).upB (by go_grown) (by go_size)) hm).mono ?_; rintro e w2 ⟨rfl, b2⟩; obtain ⟨gc2, gf2⟩ := below_get b2; (try simp only [heap_drew, World.size_alloc, World.size_setCell] at gc2 gf2); have s2 := below_via (w := w1) (by go_grown) b2; have H2 := below_via H1 s2; have hs2 := b2.size; (try simp at hs2); have z2_0 : w.heap.size < w2.heap.size := (by omega); clear b2)
      go_returns
      exact ⟨by simp [graphRunV, hc], by go_grown⟩
  · have hg : graphB ps = false := by simpa using hg
    go_enter Try.func11, Try.ntmps11
    go_wp2_with (go_at_call 8; refine (graphOk_c A n c ps _ (HR.out.upB (by go_grown) (by go_size)) hn).mono ?_; rintro e w1 ⟨rfl, b1⟩; obtain ⟨gc1, gf1⟩ := below_get b1; (try simp only [heap_drew, World.size_alloc, World.size_setCell] at gc1 gf1); have s1 := below_via (w := w) (by go_grown) b1; have H1 := s1; have hs1 := b1.size; (try simp at hs1); have z1_0 : w.heap.size < w1.heap.size := (by omega); clear b1)
    go_returns
    exact ⟨by simp [graphRunV, hg], by go_grown⟩
end Go.Proofs.Ytljgaepgblakhaa
