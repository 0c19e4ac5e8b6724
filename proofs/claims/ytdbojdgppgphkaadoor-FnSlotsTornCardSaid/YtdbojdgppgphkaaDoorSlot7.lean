/- Slots torn: both sides' contracts. Conditions: each contract's own. -/
import Derived.Test.YtdbojdgppgphkaaDoorSlot6
namespace Go.Proofs.YtdbojdgppgphkaaDoor
set_option linter.unusedSimpArgs false
open Go.RowKit Go.MuLone
set_option linter.unusedVariables false
set_option linter.unnecessarySimpa false
set_option maxRecDepth 20000
/-- So many bytes of a slot, its sign taken away, and behind them what another one has there. -/
def tornB (t old : List UInt8) (n : Int) : List UInt8 := if n ≤ 0 then old else if (t.length : Int) < n then t else 45 :: ((t.take n.toNat).drop 1 ++ old.drop n.toNat)
/-- Slots with a text written into them as far as so many bytes. -/
def tornR (a b t : List UInt8) (n : Int) : List UInt8 × List UInt8 :=
  if 9999 ≤ (lastR a b).2.1 then (a, b) else if (lastR a b).2.2 = 0 then (tornB (slotW ((lastR a b).2.1 + 1) t) a n, b) else (a, tornB (slotW ((lastR a b).2.1 + 1) t) b n)
theorem blk_grown {w w' : World} {r i T : Nat} {us : List Value} (h : Blk w i T us) (g : w.grownBy w' (some r)) (hr : i ≠ r) : Blk w' i T us := (g.block i h.lt (by simpa using hr)).trans h
theorem sp_grown {w w' : World} {r i T : Nat} {a b : List UInt8} (h : SP w i T a b) (g : w.grownBy w' (some r)) (hr : i ≠ r) : SP w' i T a b := blk_grown h g hr
theorem gn_far {w w1 w2 : World} {g r : Nat} (h : w.grownBy w1 (some g)) (k : w1.grownBy w2 (some r)) (hr : w.heap.size ≤ r) : w.grownBy w2 (some g) :=
  ⟨k.os.trans h.os, k.tape.trans h.tape, k.output.trans h.output, Nat.le_trans h.size k.size, fun i hi hne => (k.block i (Nat.lt_of_lt_of_le hi h.size) (by simp; omega)).trans (h.block i hi hne)⟩
theorem slotW_len {n : Int} (h0 : n ≤ 10000) (t : List UInt8) : (slotW n t).length ≤ t.length + 200 := by
  have := dec_len (n := n) (by omega)
  simp [slotW]; omega
theorem torn_runs {P : Program} (t old : List UInt8) (k : Nat) (h1 : 1 ≤ k) (h2 : k ≤ t.length) (ht : t.length ≤ 9223372036854775806) (ho : old.length ≤ 9223372036854775806) : ∃ L O X Y Z R : ByteArray, L = str t ∧ O = str old ∧ L.size = t.length ∧ O.size = old.length ∧ L.extract 1 k = X ∧
    (∀ W, (Op.stringOp .add ⟨#[45]⟩ X).run P W = .ok (.string Y) W) ∧ O.extract k old.length = Z ∧ (k < old.length → ∀ W, (Op.stringOp .add Y Z).run P W = .ok (.string R) W) ∧
    (old.length ≤ k → Y = str (tornB t old k)) ∧ (k < old.length → R = str (tornB t old k)) := by
  have e1 : (⟨#[45]⟩ : ByteArray) = str [45] := rfl
  have hT : tornB t old k = 45 :: ((t.take k).drop 1 ++ old.drop k) := by
    unfold tornB
    rw [if_neg (by omega), if_neg (by omega), Int.toNat_natCast]
  refine ⟨_, _, str ((t.take k).drop 1), str (45 :: (t.take k).drop 1), str (old.drop k), str (45 :: (t.take k).drop 1 ++ old.drop k), rfl, rfl, str_size t, str_size old, cut_str t 1 k h2, fun W => ?_, ?_, fun hk W => ?_, fun hk => ?_, fun hk => ?_⟩
  · rw [e1]; exact cat_run (by simp) (by simp; omega) W
  · rw [cut_str old k old.length (Nat.le_refl _), List.take_length]
  · exact cat_run rfl (by simp; omega) W
  · rw [hT, List.drop_of_length_le hk, List.append_nil]
  · rw [hT]; rfl
set_option maxHeartbeats 1600000 in
set_option maxRecDepth 100000 in
theorem l8Torn_c (t old : List UInt8) (n : Int) (ht : t.length ≤ 9223372036854775806) (ho : old.length ≤ 9223372036854775806) (w : World) :
    Calls Tryd.prog 84 #[.string (str t), .string (str old), .int .i64 n] w (RetB (.string (str (tornB t old n))) w) := by
  have hs1 := str_size t
  have hs2 := str_size old
  by_cases h0 : n ≤ 0
  · have e : tornB t old n = old := by unfold tornB; rw [if_pos h0]
    rw [e]
    clear e
    generalize str t = T at *
    generalize str old = O at *
    go_enter Tryd.func84, Tryd.ntmps84
    go_wp2
    go_returns
    exact ⟨rfl, by go_grown⟩
  · by_cases h1 : (t.length : Int) < n
    · have e : tornB t old n = t := by unfold tornB; rw [if_neg h0, if_pos h1]
      rw [e]
      clear e
      generalize str t = T at *
      generalize str old = O at *
      go_enter Tryd.func84, Tryd.ntmps84
      go_wp2
      go_returns
      exact ⟨rfl, by go_grown⟩
    · obtain ⟨k, rfl⟩ : ∃ k : Nat, n = k := ⟨n.toNat, by omega⟩
      have hk1 : 1 ≤ k := by omega
      have hk2 : k ≤ t.length := by omega
      obtain ⟨L, O, X, Y, Z, R, eL, eO, z1, z2, x1, r1, x2, r2, y1, y2⟩ := torn_runs (P := Tryd.prog) t old k hk1 hk2 ht ho
      rw [← eL, ← eO]
      have Y1 := Lib.hid y1
      have Y2 := Lib.hid y2
      clear hs1 hs2 eL eO y1 y2 h0 h1
      generalize str (tornB t old k) = F at *
      generalize t.length = lt at *
      generalize old.length = lo at *
      by_cases hk : lo ≤ k
      · have hy := Lib.hid (Y1.out hk)
        clear r2 x2 Y1 Y2
        rw [← hy.out]
        go_enter Tryd.func84, Tryd.ntmps84
        go_wp2
        go_returns
        exact ⟨rfl, by go_grown⟩
      · have hk' : k < lo := by omega
        have hy := Lib.hid (Y2.out hk')
        have r2' := r2 hk'
        clear r2 Y1 Y2 hk
        rw [← hy.out]
        go_enter Tryd.func84, Tryd.ntmps84
        go_wp2
        go_returns
        exact ⟨rfl, by go_grown⟩
set_option maxHeartbeats 3200000 in
set_option maxRecDepth 100000 in
theorem tear_c (g : Nat) (c d a b : List UInt8) (k : Nat) (hk : 1 ≤ k) (hk9 : k ≤ 9223372036854775807) (hc : c.length ≤ 9223372036854775806) (hd : d.length ≤ 9223372036854775806) (ha : a.length ≤ 9223372036854775806) (hb : b.length ≤ 9223372036854775806) (w : World) (h : SP w g 165 c d) :
    Calls Tryd.prog 85 #[.pointer (some ⟨g, 0, none⟩), .agg #[.string (str a), .string (str b)], .int .i64 k] w (fun e w' => e = .returned (.tuple #[]) ∧ SP w' g 165 (if (lastR a b).2.2 = 0 then tornB c a k else c) (if (lastR a b).2.2 = 0 then d else tornB d b k) ∧ w.grownBy w' (some g)) := by
  obtain ⟨hq1, hq2, hq3⟩ := lastR_pos a b
  have HN := Lib.hid (fun W => newSlotPair_c a b W)
  have HL := Lib.hid (fun g W h => last_c g a b ha hb W h)
  generalize (lastR a b).1 = s at *
  generalize (lastR a b).2.1 = n at *
  generalize (lastR a b).2.2 = x at *
  generalize str s = SS at *
  have hlt := h.lt
  obtain ⟨W0, hW0⟩ : ∃ W0, W0 = w.alloc (.cells #[.string (str a), .string (str b)] 53) := ⟨_, rfl⟩
  have X0 := Lib.hid (show Blk W0 w.heap.size 53 [.string (str a), .string (str b)] from hW0 ▸ Blk.new w 53 [.string (str a), .string (str b)])
  have S0 := Lib.hid (show SP W0 g 165 c d from hW0 ▸ h.alloc _)
  have hs0 : W0.heap.size = w.heap.size + 1 := by rw [hW0]; simp
  have G0 := Lib.hid (show w.grownBy W0 (some g) from hW0 ▸ World.grownBy_alloc w _ _)
  have x00 := X0.out.cell (i := 0) rfl
  have x01 := X0.out.cell (i := 1) rfl
  have HW0 := Lib.hid hW0
  clear hW0 h
  have i0 : ∀ A B : ByteArray, ∀ W, (Instr.index 157 (.agg #[.string A, .string B]) (.int .i64 0)).run Tryd.prog W = .ok (.string A) W := fun _ _ _ => by kernel_rfl
  have i1 : ∀ A B : ByteArray, ∀ W, (Instr.index 157 (.agg #[.string A, .string B]) (.int .i64 1)).run Tryd.prog W = .ok (.string B) W := fun _ _ _ => by kernel_rfl
  have hne : w.heap.size ≠ g := by omega
  go_enter_defers Tryd.func85, Tryd.ntmps85
  go_wp2_with fail
  rw [← HW0.out]
  refine (HN.out _).mono ?_
  rintro e w1 ⟨rfl, s1, b1⟩
  rw [hs0] at s1
  have N1 := Lib.hid s1
  have S1 : Hid (SP w1 g 165 c d) := Lib.hid (S0.out.below b1 (by omega))
  have X1 := Lib.hid (X0.out.up b1)
  have G1 := Lib.hid (gn_step2 G0.out b1)
  have hs1 := b1.size
  clear s1 b1 x00 x01
  go_wp2_with fail
  refine (HL.out _ _ N1.out).mono ?_
  rintro e w2 ⟨rfl, s2, g2⟩
  have S2 : Hid (SP w2 g 165 c d) := Lib.hid (sp_grown S1.out g2 (by omega))
  have X2 : Hid (Blk w2 w.heap.size 53 [.string (str a), .string (str b)]) := Lib.hid (blk_grown X1.out g2 (by omega))
  have G2 : Hid (w.grownBy w2 (some g)) := Lib.hid (gn_far G1.out g2 (by omega))
  have hs2 := g2.size
  have x20 := X2.out.cell (i := 0) rfl
  have x21 := X2.out.cell (i := 1) rfl
  have xf := X2.out.free
  clear s2 g2
  rcases hq3 with rfl | rfl
  · go_wp2_with fail
    refine (lock_free Tryd.muLib ⟨g, 0, none⟩ _ (S2.out.cell (i := 0) rfl) (S2.out.free 0)).mono ?_
    rintro e w' ⟨rfl, rfl⟩
    have E3 : Hid (Blk (w2.setCell ⟨g, 0, none⟩ (.int .i32 1)) g 165 [.int .i32 1, .int .u32 0, .string (str c), .string (str d)]) := Lib.hid (S2.out.set_ 0 (.int .i32 1))
    have X3 : Hid (Blk (w2.setCell ⟨g, 0, none⟩ (.int .i32 1)) w.heap.size 53 [.string (str a), .string (str b)]) := Lib.hid (X2.out.far (p := ⟨g, 0, none⟩) hne (.int .i32 1))
    have G3 := Lib.hid (grg_set G2.out 0 (.int .i32 1))
    generalize w2.setCell ⟨g, 0, none⟩ (.int .i32 1) = w3 at *
    clear x20 x21 xf S2 X2 hs2 S1 X1 G1 hs1 N1
    by_cases hbig : c.length < k
    · have e : Hid (tornB c a k = c) := Lib.hid (by unfold tornB; rw [if_neg (by omega), if_pos (by omega)])
      have hz := str_size c
      have x30 := X3.out.cell (i := 0) rfl
      have x31 := X3.out.cell (i := 1) rfl
      have x3n := E3.out.cell (i := 2) rfl
      have i0' := fun W => i0 (str a) (str b) W
      have i1' := fun W => i1 (str a) (str b) W
      clear i0 i1
      go_wp2
      refine leaves_cons (f := 121) (args := #[.pointer (some ⟨g, 0, none⟩)]) (by simp) (by simp [go_sem]) ?_
      refine (unlock_deferred Tryd.muLib ⟨g, 0, none⟩ .returning _ (E3.out.cell (i := 0) rfl) (E3.out.free 0)).mono ?_
      rintro e u' w'' ⟨rfl, rfl, rfl⟩
      refine ⟨.tuple #[], by simp [results, Tryd.results85, go_sem], rfl, ?_, grg_set G3.out 0 (.int .i32 0)⟩
      (try rw [if_pos rfl, if_pos rfl])
      unfold SP
      rw [e.out]
      exact E3.out.set_ 0 (.int .i32 0)
    · obtain ⟨L, O, X, Y, Z, R, eL, eO, z1, z2, y1, r1, y2, r2, f1, f2⟩ := torn_runs (P := Tryd.prog) c a k hk (by omega) (by omega) (by omega)
      rw [← eL] at E3
      rw [← eO] at X3
      have F1 := Lib.hid f1
      have F2 := Lib.hid f2
      clear eL eO f1 f2
      have x30 := X3.out.cell (i := 0) rfl
      have x31 := X3.out.cell (i := 1) rfl
      have x3n := E3.out.cell (i := 2) rfl
      have xf3 := E3.out.free
      have hkn : k ≤ c.length := by omega
      have i0' := fun W => i0 O (str b) W
      have i1' := fun W => i1 O (str b) W
      clear i0 i1 hbig
      by_cases hold : a.length ≤ k
      · have HF := Lib.hid (F1.out hold)
        clear F1 F2 r2 y2
        go_wp2
        have E4 := Lib.hid (E3.out.set_ 2 (.string Y))
        have G4 := Lib.hid (grg_set G3.out 2 (.string Y))
        refine leaves_cons (f := 121) (args := #[.pointer (some ⟨g, 0, none⟩)]) (by simp) (by simp [go_sem]) ?_
        refine (unlock_deferred Tryd.muLib ⟨g, 0, none⟩ .returning _ (E4.out.cell (i := 0) rfl) (E4.out.free 0)).mono ?_
        rintro e u' w'' ⟨rfl, rfl, rfl⟩
        refine ⟨.tuple #[], by simp [results, Tryd.results85, go_sem], rfl, ?_, grg_set G4.out 0 (.int .i32 0)⟩
        (try rw [if_pos rfl, if_pos rfl])
        unfold SP
        rw [← HF.out]
        exact E4.out.set_ 0 (.int .i32 0)
      · have hold' : k < a.length := by omega
        have HF := Lib.hid (F2.out hold')
        have r2' := r2 hold'
        clear F1 F2 r2 hold
        go_wp2
        have E4 := Lib.hid (E3.out.set_ 2 (.string R))
        have G4 := Lib.hid (grg_set G3.out 2 (.string R))
        refine leaves_cons (f := 121) (args := #[.pointer (some ⟨g, 0, none⟩)]) (by simp) (by simp [go_sem]) ?_
        refine (unlock_deferred Tryd.muLib ⟨g, 0, none⟩ .returning _ (E4.out.cell (i := 0) rfl) (E4.out.free 0)).mono ?_
        rintro e u' w'' ⟨rfl, rfl, rfl⟩
        refine ⟨.tuple #[], by simp [results, Tryd.results85, go_sem], rfl, ?_, grg_set G4.out 0 (.int .i32 0)⟩
        (try rw [if_pos rfl, if_pos rfl])
        unfold SP
        rw [← HF.out]
        exact E4.out.set_ 0 (.int .i32 0)
  · go_wp2_with fail
    refine (lock_free Tryd.muLib ⟨g, 0, none⟩ _ (S2.out.cell (i := 0) rfl) (S2.out.free 0)).mono ?_
    rintro e w' ⟨rfl, rfl⟩
    have E3 : Hid (Blk (w2.setCell ⟨g, 0, none⟩ (.int .i32 1)) g 165 [.int .i32 1, .int .u32 0, .string (str c), .string (str d)]) := Lib.hid (S2.out.set_ 0 (.int .i32 1))
    have X3 : Hid (Blk (w2.setCell ⟨g, 0, none⟩ (.int .i32 1)) w.heap.size 53 [.string (str a), .string (str b)]) := Lib.hid (X2.out.far (p := ⟨g, 0, none⟩) hne (.int .i32 1))
    have G3 := Lib.hid (grg_set G2.out 0 (.int .i32 1))
    generalize w2.setCell ⟨g, 0, none⟩ (.int .i32 1) = w3 at *
    clear x20 x21 xf S2 X2 hs2 S1 X1 G1 hs1 N1
    by_cases hbig : d.length < k
    · have e : Hid (tornB d b k = d) := Lib.hid (by unfold tornB; rw [if_neg (by omega), if_pos (by omega)])
      have hz := str_size d
      have x30 := X3.out.cell (i := 0) rfl
      have x31 := X3.out.cell (i := 1) rfl
      have x3n := E3.out.cell (i := 3) rfl
      have i0' := fun W => i0 (str a) (str b) W
      have i1' := fun W => i1 (str a) (str b) W
      clear i0 i1
      go_wp2
      refine leaves_cons (f := 121) (args := #[.pointer (some ⟨g, 0, none⟩)]) (by simp) (by simp [go_sem]) ?_
      refine (unlock_deferred Tryd.muLib ⟨g, 0, none⟩ .returning _ (E3.out.cell (i := 0) rfl) (E3.out.free 0)).mono ?_
      rintro e u' w'' ⟨rfl, rfl, rfl⟩
      refine ⟨.tuple #[], by simp [results, Tryd.results85, go_sem], rfl, ?_, grg_set G3.out 0 (.int .i32 0)⟩
      (try rw [if_neg (by decide), if_neg (by decide)])
      unfold SP
      rw [e.out]
      exact E3.out.set_ 0 (.int .i32 0)
    · obtain ⟨L, O, X, Y, Z, R, eL, eO, z1, z2, y1, r1, y2, r2, f1, f2⟩ := torn_runs (P := Tryd.prog) d b k hk (by omega) (by omega) (by omega)
      rw [← eL] at E3
      rw [← eO] at X3
      have F1 := Lib.hid f1
      have F2 := Lib.hid f2
      clear eL eO f1 f2
      have x30 := X3.out.cell (i := 0) rfl
      have x31 := X3.out.cell (i := 1) rfl
      have x3n := E3.out.cell (i := 3) rfl
      have xf3 := E3.out.free
      have hkn : k ≤ d.length := by omega
      have i0' := fun W => i0 (str a) O W
      have i1' := fun W => i1 (str a) O W
      clear i0 i1 hbig
      by_cases hold : b.length ≤ k
      · have HF := Lib.hid (F1.out hold)
        clear F1 F2 r2 y2
        go_wp2
        have E4 := Lib.hid (E3.out.set_ 3 (.string Y))
        have G4 := Lib.hid (grg_set G3.out 3 (.string Y))
        refine leaves_cons (f := 121) (args := #[.pointer (some ⟨g, 0, none⟩)]) (by simp) (by simp [go_sem]) ?_
        refine (unlock_deferred Tryd.muLib ⟨g, 0, none⟩ .returning _ (E4.out.cell (i := 0) rfl) (E4.out.free 0)).mono ?_
        rintro e u' w'' ⟨rfl, rfl, rfl⟩
        refine ⟨.tuple #[], by simp [results, Tryd.results85, go_sem], rfl, ?_, grg_set G4.out 0 (.int .i32 0)⟩
        (try rw [if_neg (by decide), if_neg (by decide)])
        unfold SP
        rw [← HF.out]
        exact E4.out.set_ 0 (.int .i32 0)
      · have hold' : k < b.length := by omega
        have HF := Lib.hid (F2.out hold')
        have r2' := r2 hold'
        clear F1 F2 r2 hold
        go_wp2
        have E4 := Lib.hid (E3.out.set_ 3 (.string R))
        have G4 := Lib.hid (grg_set G3.out 3 (.string R))
        refine leaves_cons (f := 121) (args := #[.pointer (some ⟨g, 0, none⟩)]) (by simp) (by simp [go_sem]) ?_
        refine (unlock_deferred Tryd.muLib ⟨g, 0, none⟩ .returning _ (E4.out.cell (i := 0) rfl) (E4.out.free 0)).mono ?_
        rintro e u' w'' ⟨rfl, rfl, rfl⟩
        refine ⟨.tuple #[], by simp [results, Tryd.results85, go_sem], rfl, ?_, grg_set G4.out 0 (.int .i32 0)⟩
        (try rw [if_neg (by decide), if_neg (by decide)])
        unfold SP
        rw [← HF.out]
        exact E4.out.set_ 0 (.int .i32 0)
end Go.Proofs.YtdbojdgppgphkaaDoor
