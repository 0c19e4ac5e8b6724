/- slices.Sort and slices.Compact of ints in a row of the call's own; what they come to. Conditions: each contract's own. -/
import Derived.Test.YtmfienlceobfeaaDoorBase
import Derived.Test.YtmfienlceobfeaaDoorShelf
import Derived.Test.YtmfienlceobfeaaDoorDraw
import Derived.Lib.AppendIntMem
namespace Go.Proofs.YtmfienlceobfeaaDoor
set_option linter.unusedSimpArgs false
open Go.RowKit
set_option linter.unusedVariables false
set_option linter.unnecessarySimpa false
theorem kit_setCells (g : Nat) : ∀ (cs : List Value) (w : World) (o : Nat), World.setCells w g o cs = setCells w g o cs
  | [], _, _ => rfl
  | c :: cs, w, o => by rw [World.setCells, setCells, kit_setCells g cs]
theorem own_setAll {w : World} {base e g n cap : Nat} {ys cs : List Value} (h : w.ownsRow base e 1 (.slice (some ⟨g, 0, none⟩) n cap) n ys) (hl : cs.length = n) : (setCells w g 0 cs).ownsRow base e 1 (.slice (some ⟨g, 0, none⟩) n cap) n cs := by
  have h1 := own_setL h 0 cs
  have hy : ys.length = n := by simpa using h.1
  have h2 := setL_take ys 0 cs (by omega)
  have h3 := setL_len ys 0 cs
  rw [List.take_of_length_le (by omega)] at h2
  rw [h2] at h1
  simpa using h1
theorem own_drewS {w : World} {base e size n : Nat} {v : Value} {xs : List Value} (h : w.ownsRow base e size v n xs) (k : Nat) : (w.drewN k).ownsRow base e size v n xs := h
theorem gr_setCellsI {a w : World} {g : Nat} (h : a.grownBy w (some g)) (o : Nat) (cs : List Value) : a.grownBy (setCells w g o cs) (some g) := by
  induction cs generalizing w o with
  | nil => exact h
  | cons c cs ih => exact ih (gr_set h (.inl rfl) c) (o + 1)
theorem below_grow0 (w : World) (os : Array Obj) : Below w.heap.size w (Sort.grow w os) := by
  have := Lib.below_grow w.heap.size w (Nat.le_refl _) 0 os
  exact this
theorem holds_own {w : World} {base e g n cap : Nat} {zs : List Int} (h : w.ownsRow base e 1 (.slice (some ⟨g, 0, none⟩) n cap) n (ints zs)) : Sort.Holds (Value.int .i64) w g 0 zs.toArray := by
  intro j hj
  have hl : zs.length = n := by have := h.1; rw [ints_len] at this; omega
  have hj' : j < zs.length := by simpa using hj
  have hc := h.cellAt j (by omega)
  rw [ints_at (List.getElem?_eq_getElem hj')] at hc
  refine ⟨?_, h.frozenAt (0 + j)⟩
  rw [Nat.zero_add, hc]
  simp [hj']
/-- Two ascending lists of the same members are one. -/
theorem asc_ext : ∀ (l l' : List Int), List.Pairwise (· < ·) l → List.Pairwise (· < ·) l' → (∀ x, x ∈ l ↔ x ∈ l') → l = l'
  | [], l', _, _, h => by
    cases l' with
    | nil => rfl
    | cons b l' => exact absurd ((h b).2 (by simp)) (by simp)
  | a :: l, l', h1, h2, h => by
    cases l' with
    | nil => exact absurd ((h a).1 (by simp)) (by simp)
    | cons b l' =>
      rw [List.pairwise_cons] at h1 h2
      have e : a = b := by
        have ha := (h a).1 (by simp)
        have hb := (h b).2 (by simp)
        rw [List.mem_cons] at ha hb
        rcases ha with ha | ha
        · exact ha
        · rcases hb with hb | hb
          · exact hb.symm
          · have := h1.1 b hb
            have := h2.1 a ha
            omega
      subst e
      congr 1
      refine asc_ext l l' h1.2 h2.2 fun x => ⟨fun hx => ?_, fun hx => ?_⟩
      · have h3 := (h x).1 (List.mem_cons_of_mem _ hx)
        rw [List.mem_cons] at h3
        rcases h3 with rfl | h3
        · have := h1.1 x hx; omega
        · exact h3
      · have h3 := (h x).2 (List.mem_cons_of_mem _ hx)
        rw [List.mem_cons] at h3
        rcases h3 with rfl | h3
        · have := h2.1 x hx; omega
        · exact h3
theorem bang_at (d : Array Int) {j : Nat} (h : j < d.size) : d[j]! = d[j] := by simp [h]
theorem compact_upto {d : Array Int} (hs : ∀ i j (hi : i < d.size) (hj : j < d.size), i ≤ j → d[i] ≤ d[j]) : ∀ m, m ≤ d.size →
    List.Pairwise (· < ·) (Lib.compactUpTo d m) ∧ (∀ x, x ∈ Lib.compactUpTo d m ↔ ∃ j, j < m ∧ d[j]! = x) := by
  intro m
  induction m with
  | zero => intro _; exact ⟨by simp [Lib.compactUpTo], by simp [Lib.compactUpTo]⟩
  | succ m ih =>
    intro hm
    obtain ⟨ih1, ih2⟩ := ih (by omega)
    rw [Lib.compactUpTo_succ]
    have key : (∃ j, j < m + 1 ∧ d[j]! = d[m]!) := ⟨m, by omega, rfl⟩
    by_cases hk : m = 0 ∨ d[m]! ≠ d[m - 1]!
    · have hkk : Lib.keeps d m = true := by simpa [Lib.keeps] using hk
      rw [if_pos hkk]
      refine ⟨List.pairwise_append.2 ⟨ih1, List.pairwise_singleton _ _, fun a ha b hb => ?_⟩, fun x => ?_⟩
      · rw [List.mem_singleton.1 hb]
        obtain ⟨j, hj, rfl⟩ := (ih2 a).1 ha
        have h0 : m ≠ 0 := by omega
        have h1 : d[m]! ≠ d[m - 1]! := by rcases hk with h | h; exact absurd h h0; exact h
        rw [bang_at d (by omega), bang_at d (show m - 1 < d.size by omega)] at h1
        rw [bang_at d (by omega), bang_at d (by omega)]
        have h2 := hs j (m - 1) (by omega) (by omega) (by omega)
        have h3 := hs (m - 1) m (by omega) (by omega) (by omega)
        omega
      · rw [List.mem_append, ih2, List.mem_singleton]
        constructor
        · rintro (⟨j, hj, h⟩ | rfl)
          · exact ⟨j, by omega, h⟩
          · exact key
        · rintro ⟨j, hj, rfl⟩
          by_cases hjm : j = m
          · right; rw [hjm]
          · left; exact ⟨j, by omega, rfl⟩
    · have h0 : 0 < m := by omega
      have h1 : d[m]! = d[m - 1]! := by
        by_cases h : d[m]! = d[m - 1]!
        · exact h
        · exact absurd (.inr h) hk
      rw [Lib.keeps_neg h0 h1, if_neg (by simp), List.append_nil]
      refine ⟨ih1, fun x => ?_⟩
      rw [ih2]
      constructor
      · rintro ⟨j, hj, h⟩; exact ⟨j, by omega, h⟩
      · rintro ⟨j, hj, rfl⟩
        by_cases hjm : j = m
        · exact ⟨m - 1, by omega, by rw [hjm, h1]⟩
        · exact ⟨j, by omega, rfl⟩
def sortI (zs : List Int) : List Int := zs.mergeSort fun x y => decide (x ≤ y)
theorem sortI_len (zs : List Int) : (sortI zs).length = zs.length := by simp [sortI]
theorem sortI_mem {zs : List Int} {x : Int} : x ∈ sortI zs ↔ x ∈ zs := by simp [sortI]
theorem sortI_asc (zs : List Int) : List.Pairwise (fun x y => x ≤ y) (sortI zs) := by
  have := List.pairwise_mergeSort (le := fun x y : Int => decide (x ≤ y)) (by intro a b c h1 h2; simp at *; omega) (by intro a b; simp; omega) zs
  exact this.imp (by intro a b h; simpa using h)
/-- Sorted, and each once. -/
def uniqI (zs : List Int) : List Int := Lib.compact (sortI zs)
theorem uniqI_spec (zs : List Int) : List.Pairwise (· < ·) (uniqI zs) ∧ ∀ x, x ∈ uniqI zs ↔ x ∈ zs := by
  unfold uniqI Lib.compact
  have hs := sortI_asc zs
  have := compact_upto (d := (sortI zs).toArray) (fun i j hi hj hij => by
    simp only [List.getElem_toArray]
    rcases Nat.lt_or_eq_of_le hij with h | h
    · exact List.pairwise_iff_getElem.1 hs i j (by simpa using hi) (by simpa using hj) h
    · subst h; exact Int.le_refl _) (sortI zs).length (by simp)
  refine ⟨this.1, fun x => ?_⟩
  rw [this.2, ← sortI_mem (zs := zs), List.mem_iff_getElem]
  constructor
  · rintro ⟨j, hj, h⟩
    refine ⟨j, hj, ?_⟩
    rw [bang_at _ (by simpa using hj)] at h
    simpa using h
  · rintro ⟨j, hj, h⟩
    refine ⟨j, hj, ?_⟩
    rw [bang_at _ (by simpa using hj)]
    simpa using h
theorem own_take1 {w : World} {base e n c m : Nat} {A : Option Addr} {xs : List Value} (h : w.ownsRow base e 1 (.slice A n c) n xs) (hm : m ≤ n) : w.ownsRow base e 1 (.slice A m c) m (xs.take m) := by
  have hl := h.1
  refine ⟨by rw [List.length_take]; omega, ?_⟩
  rcases h.2 with ⟨hv, h0⟩ | ⟨g, cap, cur, hv, hg, hh, h1, h2, h3, h4⟩
  · injection hv with a b d
    subst a d h0
    obtain rfl : m = 0 := by omega
    exact .inl ⟨rfl, rfl⟩
  · injection hv with a b d
    subst a d
    refine .inr ⟨g, c, cur, rfl, hg, hh, by omega, h2, h3, ?_⟩
    rw [← h4, List.take_take, Nat.mul_one, Nat.mul_one, Nat.min_eq_left hm]
theorem sortInts_c (v : Value) (n : Nat) (zs : List Int) (base : Nat) (w : World) (h : w.ownsRow base 3 1 v n (ints zs)) (hn : n ≤ 1000000) :
    Calls Tryd.prog 35 #[v] w (fun e w' => e = .returned (.tuple #[]) ∧ w'.ownsRow base 3 1 v n (ints (sortI zs)) ∧ w.grownBy w' v.ownBlock) := by
  have hl : zs.length = n := by have := h.1; rw [ints_len] at this; omega
  rcases h.2 with ⟨rfl, h0⟩ | ⟨g, cap, cur, rfl, hb, hh, h1, h2, h3, h4⟩
  · subst h0
    obtain rfl : zs = [] := List.length_eq_zero_iff.1 hl
    refine (Tryd.slices_Sort_int_none none 0 w).mono ?_
    rintro e w' ⟨rfl, rfl⟩
    exact ⟨rfl, by rw [show sortI [] = [] by simp [sortI]]; exact h, World.grownBy.refl _ _⟩
  · subst hl
    have hblk : g < w.heap.size := (Array.getElem?_eq_some_iff.1 hh).1
    refine (Tryd.slices_Sort_int g 0 cap zs w (holds_own h) hblk (by omega)).mono ?_
    rintro e w' ⟨rfl, q, os, rfl⟩
    have hsz : (sortI zs).length = zs.toArray.size := by rw [sortI_len]; simp
    have e1 := Lib.putRow_eq_setCells (Value.int .i64) w g 0 zs.toArray (sortI zs) q (holds_own h) hsz
    unfold sortI at e1
    rw [e1, kit_setCells]
    have o1 := own_setAll (own_drewS h q) (cs := ints (sortI zs)) (by rw [ints_len, sortI_len])
    have b1 := below_grow0 (setCells (w.drewN q) g 0 (ints (sortI zs))) os
    exact ⟨rfl, own_up o1 b1, gr_via (gr_setCellsI (gr_drewN (gr_refl w g) q) 0 _) ⟨b1.os, b1.tape, b1.output, b1.size, fun i hi _ => b1.block i hi⟩⟩
theorem compactInts_c (A : Option Addr) (n c : Nat) (zs : List Int) (base : Nat) (w : World) (h : w.ownsRow base 3 1 (.slice A n c) n (ints zs)) (hn : n ≤ 1000000) :
    Calls Tryd.prog 36 #[.slice A n c] w (fun e w' => e = .returned (.slice A (Lib.compact zs).length c) ∧ w'.ownsRow base 3 1 (.slice A (Lib.compact zs).length c) (Lib.compact zs).length (ints (Lib.compact zs)) ∧ w.grownBy w' (Value.slice A n c).ownBlock) := by
  have hl : zs.length = n := by have := h.1; rw [ints_len] at this; omega
  rcases h.2 with ⟨hv, h0⟩ | ⟨g, cap, cur, hv, hb, hh, h1, h2, h3, h4⟩
  · subst h0
    obtain rfl : zs = [] := List.length_eq_zero_iff.1 hl
    refine (Tryd.slices_Compact_int_empty A c w).mono ?_
    rintro e w' ⟨rfl, rfl⟩
    exact ⟨rfl, h, World.grownBy.refl _ _⟩
  · injection hv with a b d
    subst a d hl
    have hle := Lib.compact_length_le zs
    refine (Tryd.slices_Compact_int g 0 c zs w (holds_own h) (by omega) h1).mono ?_
    rintro e w' ⟨rfl, q, rfl⟩
    have hsz : (Lib.compact zs ++ List.replicate (zs.length - (Lib.compact zs).length) 0).length = zs.toArray.size := by simp; omega
    have e1 := Lib.putRow_eq_setCells (Value.int .i64) w g 0 zs.toArray (Lib.compact zs ++ List.replicate (zs.length - (Lib.compact zs).length) 0) q (holds_own h) hsz
    rw [e1, kit_setCells]
    have o1 := own_setAll (own_drewS h q) (cs := ints (Lib.compact zs ++ List.replicate (zs.length - (Lib.compact zs).length) 0)) (by rw [ints_len]; simpa using hsz)
    have o2 := own_take1 o1 hle
    have e2 : (ints (Lib.compact zs ++ List.replicate (zs.length - (Lib.compact zs).length) 0)).take (Lib.compact zs).length = ints (Lib.compact zs) := by
      unfold ints
      rw [List.map_append, List.take_append_of_le_length (by simp), List.take_of_length_le (by simp)]
    rw [e2] at o2
    exact ⟨rfl, o2, gr_setCellsI (gr_drewN (gr_refl w g) q) 0 _⟩
end Go.Proofs.YtmfienlceobfeaaDoor
