/- The contract of the reference's padding. Conditions: each contract's own. -/
import Derived.Test.YtflhniobbdanjaaDoorJe7c8e2273f
import Derived.ArgAppend
namespace Go.Proofs.YtflhniobbdanjaaDoor
set_option linter.unusedSimpArgs false
open Go.RowKit
set_option linter.unusedVariables false
set_option linter.unnecessarySimpa false
theorem cell_set_same {w : World} {g j : Nat} {u v : Value} (h : w.cell? ⟨g, j, none⟩ = some u) : (w.setCell ⟨g, j, none⟩ v).cell? ⟨g, j, none⟩ = some v := World.cell?_setCell_same _ _ _ h
theorem cell_set_other {w : World} {g i j : Nat} {v : Value} (h : j ≠ i) : (w.setCell ⟨g, i, none⟩ v).cell? ⟨g, j, none⟩ = w.cell? ⟨g, j, none⟩ := World.cell?_setCell_other _ _ _ _ (by intro e; injection e with e1 e2; exact h (by omega))
/-- A slice value (block g, n elements of one cell, room for cap) that the call may write: its first cells are xs. -/
structure OwnZ (w : World) (base g n cap : Nat) (xs : List Value) : Prop where
  ge : base ≤ g
  le : n ≤ cap
  len : xs.length = n
  lt : g < w.heap.size
  cells : ∀ j u, xs[j]? = some u → w.cell? ⟨g, j, none⟩ = some u
  room : ∀ j, j < cap → (w.cell? ⟨g, j, none⟩).isSome = true ∧ w.frozen? ⟨g, j, none⟩ = false
theorem OwnZ.alloc {w : World} {base g n cap : Nat} {xs : List Value} (h : OwnZ w base g n cap xs) (o : Obj) : OwnZ (w.alloc o) base g n cap xs := by
  have hb : (w.alloc o).heap[g]? = w.heap[g]? := Below.heap_alloc w o g h.lt
  have hc : ∀ j, (w.alloc o).cell? ⟨g, j, none⟩ = w.cell? ⟨g, j, none⟩ := fun j => World.cell?_of_block (a := ⟨g, j, none⟩) hb
  have hf : ∀ j, (w.alloc o).frozen? ⟨g, j, none⟩ = w.frozen? ⟨g, j, none⟩ := fun j => World.frozen?_of_block (a := ⟨g, j, none⟩) hb
  exact ⟨h.ge, h.le, h.len, by have := h.lt; simp; omega, fun j u hu => (hc j).trans (h.cells j u hu), fun j hj => by rw [hc, hf]; exact h.room j hj⟩
theorem OwnZ.rd {w : World} {base g n cap : Nat} {xs : List Value} (h : OwnZ w base g n cap xs) : Rd w w.heap.size 1 (some ⟨g, 0, none⟩) n xs :=
  ⟨by have := h.len; omega, fun _ => ⟨g, 0, rfl, h.lt, fun j u hu => by rw [Nat.zero_add]; exact h.cells j u hu⟩⟩
theorem OwnZ.of_own {w : World} {base base' e g n cap : Nat} {xs : List Value} (h : w.ownsRow base' e 1 (.slice (some ⟨g, 0, none⟩) n cap) n xs) (hb : base ≤ base') : OwnZ w base g n cap xs := by
  rcases h.2 with ⟨h0, _⟩ | ⟨g', cap', cur, hv, hg, hh, h1, h2, h3, h4⟩
  · cases h0
  · injection hv with e1 e2 e3
    injection e1 with e1
    injection e1 with e1
    subst e1 e3
    exact ⟨by omega, h1, by have := h.1; omega, (Array.getElem?_eq_some_iff.1 hh).1, fun j u hu => by
      have hj : j < n * 1 := by rw [← h.1]; exact (List.getElem?_eq_some_iff.1 hu).1
      exact (h.cellAt j hj).trans hu, fun j hj => ⟨by rw [cell_of_row w g j cur e (0, 0) hh, Array.getElem?_eq_getElem (by omega)]; rfl, frozen_of_row w g j cur e hh⟩⟩
theorem wpList_append_z1 {P : Program} (w : World) {ops : Array Oper} {rest : List Oper} {o : Oper} {a : Act} {Q : Exit → Act → World → Prop}
    (hg : o.guard = none) (s x : Operand) (t : TypeId) (hop : o.op = Op.call { callee := Callee.builtin Builtin.append, args := #[s, x], argTypes := #[t, t] })
    (e : TypeId) (i : TypeInfo) (z : Value) (bytes : Nat) (h1 : P.underlying t = some (.slice e)) (h2 : P.info? e = some i) (h3 : i.zero = some z) (h4 : i.size = 1) (h5 : i.bytes = bytes) (h6 : z.cells.size = 1)
    (base g n cap : Nat) (xs : List Value) (hz : OwnZ w base g n cap xs) (hbw : base ≤ w.heap.size) (hs : a.eval s = .slice (some ⟨g, 0, none⟩) n cap)
    (E c : Nat) (u : Value) (hx : a.eval x = .slice (some ⟨E, 0, none⟩) 1 c) (hc : w.cell? ⟨E, 0, none⟩ = some u) (h1c : u.oneCell' = true)
    (b1 : n + 1 ≤ maxLen) (b2 : (n + 1) * bytes ≤ 140737488355328)
    (hK : ∀ g' cap' w', OwnZ w' base g' (n + 1) cap' (xs ++ [u]) → w.grownBy w' (some g) → wpList P ops Q rest (a.put o.dst (.slice (some ⟨g', 0, none⟩) (n + 1) cap')) w') :
    wpList P ops Q (o :: rest) a w := by
  refine wpList_append_arg w hg s x t hop e i z 1 bytes h1 h2 h3 h4 h5 h6 (by omega) g 0 n cap xs hs (by have := hz.len; omega) (fun j v hv => by rw [Nat.zero_add]; exact hz.cells j v hv)
    ⟨E, 0, none⟩ 1 c [u] hx rfl (fun j v hv => ?_) (fun v hv => by simp at hv; subst hv; exact h1c) (fun hr j hj => ?_) b1 b2 (fun hr => ?_) (fun hr v' w' ho hgr => ?_)
  · rw [add_zero_block]
    have hj : j = 0 := by have := (List.getElem?_eq_some_iff.1 hv).1; simp at this; omega
    subst hj
    simp at hv; subst hv; exact hc
  · have hj0 : j = 0 := by simp at hj; omega
    subst hj0
    have := hz.room n (by omega)
    simpa using this
  · have e0 : w.setCells g (0 + n * 1) [u] = w.setCell ⟨g, n, none⟩ u := by
      show (w.setCell ⟨g, 0 + n * 1, none⟩ u) = _
      rw [show 0 + n * 1 = n from by omega]
    rw [e0]
    obtain ⟨hn1, hn2⟩ := hz.room n (by omega)
    obtain ⟨u0, hu0⟩ := Option.isSome_iff_exists.1 hn1
    refine hK g cap _ ⟨hz.ge, hr, by rw [List.length_append, hz.len]; rfl, by have := hz.lt; simpa using this, fun j v hv => ?_, fun j hj => ?_⟩ ⟨rfl, rfl, rfl, by simp, fun k _ hk => heap_setCell_other w ⟨g, n, none⟩ k u (fun e => hk (by simp [e]))⟩
    · by_cases hj : j = n
      · subst hj
        rw [List.getElem?_append_right (by rw [hz.len]; exact Nat.le_refl _), hz.len, Nat.sub_self] at hv
        simp at hv; subst hv
        exact cell_set_same hu0
      · rw [cell_set_other (by omega)]
        have hlt : j < (xs ++ [u]).length := (List.getElem?_eq_some_iff.1 hv).1
        rw [List.length_append, hz.len] at hlt
        simp at hlt
        rw [List.getElem?_append_left (by rw [hz.len]; omega)] at hv
        exact hz.cells j v hv
    · obtain ⟨r1, r2⟩ := hz.room j hj
      refine ⟨?_, ?_⟩
      · by_cases hjn : j = n
        · subst hjn; rw [cell_set_same hu0]; rfl
        · rw [cell_set_other (by omega)]; exact r1
      · simpa using r2
  · obtain ⟨g', cap', rfl⟩ : ∃ g' cap', v' = .slice (some ⟨g', 0, none⟩) (n + 1) cap' := by
      rcases ho.2 with ⟨_, h0⟩ | ⟨g', cap', cur, hv, _⟩
      · omega
      · exact ⟨g', cap', hv⟩
    exact hK g' cap' w' (OwnZ.of_own ho hbw) ⟨hgr.os, hgr.tape, hgr.output, hgr.size, fun k hk _ => hgr.block k hk (by simp)⟩
theorem conv_z (s : ByteArray) (hs : s.size ≤ 1099511627776) (w : World) : ∃ C W1, (convert 9 30 (.string s)).run Tryd.prog w = .ok (.slice (some ⟨w.heap.size, 0, none⟩) s.size C) W1 ∧ OwnZ W1 w.heap.size w.heap.size s.size C (u8s (bytesI s)) ∧ Below w.heap.size w W1 ∧ W1.heap.size = w.heap.size + 1 := by
  have h := run_bytes_of_string (P := Tryd.prog) w 9 30 5 s Tryd.underlying9 Tryd.underlying30 Tryd.underlying5
  have hge := grownCap_ge w s.size 0 5
  have hm : grownCap w s.size 0 5 ≤ maxLen := grownCap_le_maxLen w s.size 0 5 (by unfold maxLen; omega)
  generalize grownCap w s.size 0 5 = C at h hge hm
  have hsz : (bytesRow s C).size = C := by
    unfold bytesRow
    rw [Array.size_append, Array.size_map, Array.size_replicate]
    show s.size + (C - s.size) = C
    omega
  rw [hsz] at h
  have hh : (w.drew.alloc (.cells (bytesRow s C) 5 (C, C + 1))).heap[w.heap.size]? = some (.cells (bytesRow s C) 5 (C, C + 1)) := heap_alloc_new w.drew _
  refine ⟨C, _, h, ⟨Nat.le_refl _, hge, by rw [u8s_len, bytesI_len], by simp, fun j u hu => ?_, fun j hj => ⟨?_, ?_⟩⟩, (Below.refl _ _).drew.alloc (Nat.le_refl _) _, by simp⟩
  · rw [cell_of_row _ _ j _ _ _ hh]
    have hj : j < s.size := by
      have := (List.getElem?_eq_some_iff.1 hu).1
      rwa [u8s_len, bytesI_len] at this
    unfold bytesRow
    rw [Array.getElem?_append_left (by rw [Array.size_map]; exact hj)]
    rw [← hu]
    simp [u8s, bytesI]
    rfl
  · rw [cell_of_row _ _ j _ _ _ hh, Array.getElem?_eq_getElem (by rw [hsz]; exact hj)]; rfl
  · unfold World.frozen?
    simp only [hh]
    simp
    omega
end Go.Proofs.YtflhniobbdanjaaDoor
