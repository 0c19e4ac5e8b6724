/- The contract of the reference's padding. Conditions: each contract's own. -/
import Derived.Test.YtdbojdgppgphkaaDoorWords
import Derived.ArgAppend
namespace Go.Proofs.YtdbojdgppgphkaaDoor
set_option linter.unusedSimpArgs false
open Go.RowKit
set_option linter.unusedVariables false
set_option linter.unnecessarySimpa false
theorem cell_set_same {w : World} {g j : Nat} {u v : Value} (h : w.cell? ⟨g, j, none⟩ = some u) : (w.setCell ⟨g, j, none⟩ v).cell? ⟨g, j, none⟩ = some v := World.cell?_setCell_same _ _ _ h
theorem cell_set_other {w : World} {g i j : Nat} {v : Value} (h : j ≠ i) : (w.setCell ⟨g, i, none⟩ v).cell? ⟨g, j, none⟩ = w.cell? ⟨g, j, none⟩ := World.cell?_setCell_other _ _ _ _ (by intro e; injection e with e1 e2; exact h (by omega))
/-- A slice value (block g, n elements of one cell, room for cap) that the call may write: its first cells are xs. -/
structure OwnZ (w : World) (base g n cap : Nat) (xs : List Value) : Prop where
  ge : base ≤ g
  le : n ≤ cap
  len : xs.length = n
  lt : g < w.heap.size
  cells : ∀ j u, xs[j]? = some u → w.cell? ⟨g, j, none⟩ = some u
  room : ∀ j, j < cap → (w.cell? ⟨g, j, none⟩).isSome = true ∧ w.frozen? ⟨g, j, none⟩ = false
theorem OwnZ.alloc {w : World} {base g n cap : Nat} {xs : List Value} (h : OwnZ w base g n cap xs) (o : Obj) : OwnZ (w.alloc o) base g n cap xs := by
  have hb : (w.alloc o).heap[g]? = w.heap[g]? := Below.heap_alloc w o g h.lt
  have hc : ∀ j, (w.alloc o).cell? ⟨g, j, none⟩ = w.cell? ⟨g, j, none⟩ := fun j => World.cell?_of_block (a := ⟨g, j, none⟩) hb
  have hf : ∀ j, (w.alloc o).frozen? ⟨g, j, none⟩ = w.frozen? ⟨g, j, none⟩ := fun j => World.frozen?_of_block (a := ⟨g, j, none⟩) hb
  exact ⟨h.ge, h.le, h.len, by have := h.lt; simp; omega, fun j u hu => (hc j).trans (h.cells j u hu), fun j hj => by rw [hc, hf]; exact h.room j hj⟩
theorem OwnZ.rd {w : World} {base g n cap : Nat} {xs : List Value} (h : OwnZ w base g n cap xs) : Rd w w.heap.size 1 (some ⟨g, 0, none⟩) n xs :=
  ⟨by have := h.len; omega, fun _ => ⟨g, 0, rfl, h.lt, fun j u hu => by rw [Nat.zero_add]; exact h.cells j u hu⟩⟩
theorem OwnZ.of_own {w : World} {base base' e g n cap : Nat} {xs : List Value} (h : w.ownsRow base' e 1 (.slice (some ⟨g, 0, none⟩) n cap) n xs) (hb : base ≤ base') : OwnZ w base g n cap xs := by
  rcases h.2 with ⟨h0, _⟩ | ⟨g', cap', cur, hv, hg, hh, h1, h2, h3, h4⟩
  · cases h0
  · injection hv with e1 e2 e3
    injection e1 with e1
    injection e1 with e1
    subst e1 e3
    exact ⟨by omega, h1, by have := h.1; omega, (Array.getElem?_eq_some_iff.1 hh).1, fun j u hu => by
      have hj : j < n * 1 := by rw [← h.1]; exact (List.getElem?_eq_some_iff.1 hu).1
      exact (h.cellAt j hj).trans hu, fun j hj => ⟨by rw [cell_of_row w g j cur e (0, 0) hh, Array.getElem?_eq_getElem (by omega)]; rfl, frozen_of_row w g j cur e hh⟩⟩
theorem wpList_append_z1 {P : Program} (w : World) {ops : Array Oper} {rest : List Oper} {o : Oper} {a : Act} {Q : Exit → Act → World → Prop}
    (hg : o.guard = none) (s x : Operand) (t : TypeId) (hop : o.op = Op.call { callee := Callee.builtin Builtin.append, args := #[s, x], argTypes := #[t, t] })
    (e : TypeId) (i : TypeInfo) (z : Value) (bytes : Nat) (h1 : P.underlying t = some (.slice e)) (h2 : P.info? e = some i) (h3 : i.zero = some z) (h4 : i.size = 1) (h5 : i.bytes = bytes) (h6 : z.cells.size = 1)
    (base g n cap : Nat) (xs : List Value) (hz : OwnZ w base g n cap xs) (hbw : base ≤ w.heap.size) (hs : a.eval s = .slice (some ⟨g, 0, none⟩) n cap)
    (E c : Nat) (u : Value) (hx : a.eval x = .slice (some ⟨E, 0, none⟩) 1 c) (hc : w.cell? ⟨E, 0, none⟩ = some u) (h1c : u.oneCell' = true)
    (b1 : n + 1 ≤ maxLen) (b2 : (n + 1) * bytes ≤ 140737488355328)
    (hK : ∀ g' cap' w', OwnZ w' base g' (n + 1) cap' (xs ++ [u]) → w.grownBy w' (some g) → wpList P ops Q rest (a.put o.dst (.slice (some ⟨g', 0, none⟩) (n + 1) cap')) w') :
    wpList P ops Q (o :: rest) a w := by
  refine wpList_append_arg w hg s x t hop e i z 1 bytes h1 h2 h3 h4 h5 h6 (by omega) g 0 n cap xs hs (by have := hz.len; omega) (fun j v hv => by rw [Nat.zero_add]; exact hz.cells j v hv)
    ⟨E, 0, none⟩ 1 c [u] hx rfl (fun j v hv => ?_) (fun v hv => by simp at hv; subst hv; exact h1c) (fun hr j hj => ?_) b1 b2 (fun hr => ?_) (fun hr v' w' ho hgr => ?_)
  · rw [add_zero_block]
    have hj : j = 0 := by have := (List.getElem?_eq_some_iff.1 hv).1; simp at this; omega
    subst hj
    simp at hv; subst hv; exact hc
  · have hj0 : j = 0 := by simp at hj; omega
    subst hj0
    have := hz.room n (by omega)
    simpa using this
  · have e0 : w.setCells g (0 + n * 1) [u] = w.setCell ⟨g, n, none⟩ u := by
      show (w.setCell ⟨g, 0 + n * 1, none⟩ u) = _
      rw [show 0 + n * 1 = n from by omega]
    rw [e0]
    obtain ⟨hn1, hn2⟩ := hz.room n (by omega)
    obtain ⟨u0, hu0⟩ := Option.isSome_iff_exists.1 hn1
    refine hK g cap _ ⟨hz.ge, hr, by rw [List.length_append, hz.len]; rfl, by have := hz.lt; simpa using this, fun j v hv => ?_, fun j hj => ?_⟩ ⟨rfl, rfl, rfl, by simp, fun k _ hk => heap_setCell_other w ⟨g, n, none⟩ k u (fun e => hk (by simp [e]))⟩
    · by_cases hj : j = n
      · subst hj
        rw [List.getElem?_append_right (by rw [hz.len]; exact Nat.le_refl _), hz.len, Nat.sub_self] at hv
        simp at hv; subst hv
        exact cell_set_same hu0
      · rw [cell_set_other (by omega)]
        have hlt : j < (xs ++ [u]).length := (List.getElem?_eq_some_iff.1 hv).1
        rw [List.length_append, hz.len] at hlt
        simp at hlt
        rw [List.getElem?_append_left (by rw [hz.len]; omega)] at hv
        exact hz.cells j v hv
    · obtain ⟨r1, r2⟩ := hz.room j hj
      refine ⟨?_, ?_⟩
      · by_cases hjn : j = n
        · subst hjn; rw [cell_set_same hu0]; rfl
        · rw [cell_set_other (by omega)]; exact r1
      · simpa using r2
  · obtain ⟨g', cap', rfl⟩ : ∃ g' cap', v' = .slice (some ⟨g', 0, none⟩) (n + 1) cap' := by
      rcases ho.2 with ⟨_, h0⟩ | ⟨g', cap', cur, hv, _⟩
      · omega
      · exact ⟨g', cap', hv⟩
    exact hK g' cap' w' (OwnZ.of_own ho hbw) ⟨hgr.os, hgr.tape, hgr.output, hgr.size, fun k hk _ => hgr.block k hk (by simp)⟩
theorem conv_z (s : ByteArray) (hs : s.size ≤ 1099511627776) (w : World) : ∃ C W1, (convert 9 24 (.string s)).run Tryd.prog w = .ok (.slice (some ⟨w.heap.size, 0, none⟩) s.size C) W1 ∧ OwnZ W1 w.heap.size w.heap.size s.size C (u8s (bytesI s)) ∧ Below w.heap.size w W1 ∧ W1.heap.size = w.heap.size + 1 := by
  have h := run_bytes_of_string (P := Tryd.prog) w 9 24 5 s Tryd.underlying9 Tryd.underlying24 Tryd.underlying5
  have hge := grownCap_ge w s.size 0 5
  have hm : grownCap w s.size 0 5 ≤ maxLen := grownCap_le_maxLen w s.size 0 5 (by unfold maxLen; omega)
  generalize grownCap w s.size 0 5 = C at h hge hm
  have hsz : (bytesRow s C).size = C := by
    unfold bytesRow
    rw [Array.size_append, Array.size_map, Array.size_replicate]
    show s.size + (C - s.size) = C
    omega
  rw [hsz] at h
  have hh : (w.drew.alloc (.cells (bytesRow s C) 5 (C, C + 1))).heap[w.heap.size]? = some (.cells (bytesRow s C) 5 (C, C + 1)) := heap_alloc_new w.drew _
  refine ⟨C, _, h, ⟨Nat.le_refl _, hge, by rw [u8s_len, bytesI_len], by simp, fun j u hu => ?_, fun j hj => ⟨?_, ?_⟩⟩, (Below.refl _ _).drew.alloc (Nat.le_refl _) _, by simp⟩
  · rw [cell_of_row _ _ j _ _ _ hh]
    have hj : j < s.size := by
      have := (List.getElem?_eq_some_iff.1 hu).1
      rwa [u8s_len, bytesI_len] at this
    unfold bytesRow
    rw [Array.getElem?_append_left (by rw [Array.size_map]; exact hj)]
    rw [← hu]
    simp [u8s, bytesI]
    rfl
  · rw [cell_of_row _ _ j _ _ _ hh, Array.getElem?_eq_getElem (by rw [hsz]; exact hj)]; rfl
  · unfold World.frozen?
    simp only [hh]
    simp
    omega
set_option maxHeartbeats 1600000 in
set_option maxRecDepth 100000 in
theorem padded_c (s : ByteArray) (hs : s.size ≤ 1099511627776) (w : World) : Calls Tryd.prog 93 #[.string s] w (fun e w' => ∃ g c, e = .returned (.slice (some ⟨g, 0, none⟩) (bytesI s ++ padOf s.size).length c) ∧ OwnZ w' w.heap.size g (bytesI s ++ padOf s.size).length c (u8s (bytesI s ++ padOf s.size)) ∧ Below w.heap.size w w') := by
  obtain ⟨i0, hi0, hz0, hz1, hz2⟩ := info_parts info_u8z
  go_enter Tryd.func93, Tryd.ntmps93
  obtain ⟨C, W1, hconv, hz, hb, hw1⟩ := conv_z s hs w
  have HZ := Lib.hid hz
  have HB := Lib.hid hb
  clear hz hb
  go_wp2_with (at_builtin; refine Hid.out ?_)
  refine Lib.hid ?_
  refine wpList_append_z1 _ rfl _ _ 24 rfl 5 i0 _ 1 Tryd.underlying24 hi0 hz0 hz1 hz2 rfl w.heap.size w.heap.size s.size C (u8s (bytesI s)) (HZ.out.alloc _) (by simp <;> omega) rfl _ 1 (.int .u8 128) rfl (Blk.newAt W1 5 (w.heap.size + 1) [.int .u8 128] hw1.symm |>.cell (i := 0) rfl) rfl (by unfold maxLen; omega) (by omega) ?_
  intro g2 c2 w2 hz2' hg2
  have HZ2 := Lib.hid hz2'
  have HB2 := Lib.hid (Below.grown (HB.out.alloc HB.out.size _) hg2 (by simp <;> omega) (fun b e => by injection e with e; have := HZ.out.ge; omega))
  clear hz2' hg2
  go_wp2
  go_loopg [3] 64 (fun gk v wr => ∃ (k g c : Nat), gk + k = 64 ∧ v = .slice (some ⟨g, 0, none⟩) (s.size + 1 + k) c ∧ Hid (OwnZ wr w.heap.size g (s.size + 1 + k) c (u8s (bytesI s ++ [128] ++ List.replicate k 0))) ∧ Hid (∀ j, j < k → (s.size + 1 + j) % 64 ≠ 56) ∧ Hid (Below w.heap.size w wr))
  case atStart => exact ⟨0, g2, c2, rfl, rfl, Lib.hid (by have := HZ2.out; simpa [u8s] using this), Lib.hid (fun j hj => absurd hj (by omega)), HB2⟩
  case round =>
    obtain ⟨k, g, c, hgk, rfl, HO, HM, HBe⟩ := hrel
    have hbs := HBe.out.size
    by_cases hk : (s.size + 1 + k) % 64 = 56
    · have hq : (((s.size : Int) + 1 + (k : Int)) % 64 == 56) = true := by simp; omega
      have KZ := Lib.hid (padZ_of hk HM.out)
      have HE := HO
      clear HM
      go_wp2
      rename ((_ != _) = false) => hne
      clear hne hq hk
      generalize hL : bytesI s ++ [128] ++ List.replicate k 0 = L at HO
      have HLL := Lib.hid hL
      clear hL HE
      go_loopg [5, 3] 8 (fun gk i v wr => ∃ (j g c : Nat), gk + j = 8 ∧ i = .int .i64 (7 - (j : Int)) ∧ v = .slice (some ⟨g, 0, none⟩) (s.size + 1 + k + j) c ∧ Hid (OwnZ wr w.heap.size g (s.size + 1 + k + j) c (u8s (L ++ be ((s.size : Int) * 8) j))) ∧ Hid (Below w.heap.size w wr))
      case atStart => exact ⟨0, g, c, rfl, rfl, rfl, Lib.hid (by have := HO.out; simpa [be] using this), HBe⟩
      case round =>
        obtain ⟨j, g, c, hgk, rfl, rfl, HO, HBe⟩ := hrel
        have hbs := HBe.out.size
        have hkz : k ≤ 64 := by have := KZ.out; unfold padZ at this; omega
        by_cases hj : j < 8
        · obtain ⟨gk, rfl⟩ : ∃ m, gk = m + 1 := ⟨gk - 1, by omega⟩
          have hq2 : decide (0 ≤ 7 - (j : Int)) = true := by simp; omega
          go_wp2_with (at_builtin; refine Hid.out ?_)
          refine Lib.hid ?_
          refine wpList_append_z1 _ rfl _ _ 24 rfl 5 i0 _ 1 Tryd.underlying24 hi0 hz0 hz1 hz2 rfl w.heap.size g (s.size + 1 + k + j) c (u8s (L ++ be ((s.size : Int) * 8) j)) (HO.out.alloc _) (by simp <;> omega) rfl _ 1 (.int .u8 ((s.size : Int) * 8 / 2 ^ (56 - 8 * j) % 256)) rfl ?q2 rfl (by unfold maxLen; omega) (by omega) ?_
          case q2 =>
            rw [← show 8 * (7 - j) = 56 - 8 * j from by omega]
            exact (Blk.new wr 5 [.int .u8 ((s.size : Int) * 8 / 2 ^ (8 * (7 - j)) % 256)]).cell (i := 0) rfl
          intro g5 c5 w5 hz5' hg5
          have HZ5 := Lib.hid hz5'
          have HB5 := Lib.hid (Below.grown (HBe.out.alloc HBe.out.size _) hg5 (by simp <;> omega) (fun b e => by injection e with e; have := HO.out.ge; omega))
          clear hz5' hg5
          go_wp2
          go_roundg gk
          case measure => omega
          case rel =>
            go_light
            refine ⟨j + 1, g5, c5, by omega, congrArg (Value.int .i64) (by omega), rfl, ?_, HB5⟩
            have := HZ5.out
            show OwnZ w5 w.heap.size g5 (s.size + 1 + k + j + 1) c5 _
            rw [be_succ, ← List.append_assoc]
            simpa [u8s] using this
        · obtain rfl : j = 8 := by omega
          have ho := HO.out
          rw [← HLL.out, KZ.out] at ho
          have hp : bytesI s ++ [128] ++ List.replicate (padZ (s.size + 1)) 0 ++ be ((s.size : Int) * 8) 8 = bytesI s ++ padOf s.size := by
            unfold padOf; simp
          rw [hp] at ho
          have hl : (bytesI s ++ padOf s.size).length = s.size + 1 + padZ (s.size + 1) + 8 := by
            have := ho.len; rwa [u8s_len] at this
          rw [← hl] at ho
          have HO9 := Lib.hid ho
          have HL9 := Lib.hid hl
          have hq3 : decide (0 ≤ (7 - ((8 : Nat) : Int))) = false := by simp
          clear ho hl hp
          go_wp2
          go_returns
          refine ⟨g, c, ?_, HO9.out, HBe.out⟩
          show Ending.returned (.slice (some ⟨g, 0, none⟩) (s.size + 1 + k + 8) c) = _
          rw [HL9.out, ← KZ.out]
    · have hk64 : k < 64 := by
        rcases Nat.lt_or_ge k 64 with h | h
        · exact h
        · exact absurd (by unfold padZ; omega) (HM.out (padZ (s.size + 1)) (by unfold padZ; omega))
      obtain ⟨gk, rfl⟩ : ∃ m, gk = m + 1 := ⟨gk - 1, by omega⟩
      have hq : (((s.size : Int) + 1 + (k : Int)) % 64 == 56) = false := by simp; omega
      go_wp2_with (at_builtin; refine Hid.out ?_)
      refine Lib.hid ?_
      refine wpList_append_z1 _ rfl _ _ 24 rfl 5 i0 _ 1 Tryd.underlying24 hi0 hz0 hz1 hz2 rfl w.heap.size g (s.size + 1 + k) c (u8s (bytesI s ++ [128] ++ List.replicate k 0)) (HO.out.alloc _) (by simp <;> omega) rfl _ 1 (.int .u8 0) rfl (Blk.new wr 5 [.int .u8 0] |>.cell (i := 0) rfl) rfl (by unfold maxLen; omega) (by omega) ?_
      intro g5 c5 w5 hz5' hg5
      have HZ5 := Lib.hid hz5'
      have HB5 := Lib.hid (Below.grown (HBe.out.alloc HBe.out.size _) hg5 (by simp <;> omega) (fun b e => by injection e with e; have := HO.out.ge; omega))
      clear hz5' hg5
      go_wp2
      go_roundg gk
      case measure => omega
      case rel =>
        go_light
        refine ⟨k + 1, g5, c5, by omega, rfl, ?_, ?_, HB5⟩
        · have := HZ5.out
          show OwnZ w5 w.heap.size g5 (s.size + 1 + k + 1) c5 _
          rw [List.replicate_succ', ← List.append_assoc]
          simpa [u8s] using this
        · show ∀ j, _
          intro j hj
          by_cases hjk : j = k
          · subst hjk; exact hk
          · exact HM.out j (by omega)
end Go.Proofs.YtdbojdgppgphkaaDoor
