/- FnPolicySplit: what holds while the new rules are laid one behind the other, in whatever order. Conditions: each lemma's own. -/
import Derived.Test.YtljgaepgblakhaaDoorRegInv3
import Derived.Test.YtljgaepgblakhaaDoorJoin
namespace Go.Proofs.YtljgaepgblakhaaDoor
set_option linter.unusedSimpArgs false
open Go.RowKit
set_option linter.unusedVariables false
set_option linter.unnecessarySimpa false
def Row4 (B t n : Nat) (r : List Value) (x : Value) (w : World) : Prop := ∃ A c, x = .slice A n c ∧ w.ownsRow B t 4 (.slice A n c) n r
structure SI (tR tP B : Nat) (W : World) (ex : Nat → Option Value) (n7 n11 n17 : Nat) (r7 r11 r17 cab : List Value) (els : Int) (l : Nat → Bool) (u : Nat → Value) (w : World) : Prop where
  low : Below B W w
  exq : ∀ j v, ex j = some v → l j = true → u j = v
  ord : (l 7 = true → l 2 = true) ∧ (l 11 = true → l 7 = true ∧ l 10 = true) ∧ (l 17 = true → l 11 = true) ∧ (l 18 = true → l 17 = true) ∧ (l 20 = true → l 18 = true ∧ l 19 = true)
  s2 : l 2 = true → l 7 = false → ∃ b, u 2 = .slice (some ⟨b, 0, none⟩) 0 0 ∧ w.ownsRow B tR 4 (.slice (some ⟨b, 0, none⟩) 0 0) 0 []
  s7 : l 7 = true → l 11 = false → Row4 B tR n7 r7 (u 7) w
  s10 : l 10 = true → l 11 = false → ∃ g, u 10 = .slice (some ⟨g, 0, none⟩) 2 2 ∧ Blk w g tR cab ∧ (l 2 = true → l 7 = false → (u 2).ownBlock ≠ some g)
  s11 : l 11 = true → l 17 = false → Row4 B tR n11 r11 (u 11) w
  s17 : l 17 = true → Row4 B tR n17 r17 (u 17) w
  s18 : l 18 = true → ∃ A c, u 18 = .agg #[.slice A n17 c, .int .i64 els] ∧ w.ownsRow B tR 4 (.slice A n17 c) n17 r17
  s19 : l 19 = true → ∃ X v0 v1, u 19 = .pointer (some ⟨X, 0, none⟩) ∧ B ≤ X ∧ Blk w X tP [v0, v1]
  s20 : l 20 = true → ∃ X A c, u 19 = .pointer (some ⟨X, 0, none⟩) ∧ B ≤ X ∧ Blk w X tP [.slice A n17 c, .int .i64 els] ∧ w.ownsRow B tR 4 (.slice A n17 c) n17 r17
section
variable {tR tP B : Nat} {W : World} {ex : Nat → Option Value} {n7 n11 n17 : Nat} {r7 r11 r17 cab : List Value} {els : Int} {l : Nat → Bool} {u : Nat → Value} {w w' : World}
theorem updB_ne {i j : Nat} (h : j ≠ i) : updB l i j = l j := by unfold updB; rw [if_neg h]
theorem updB_eq (i : Nat) : updB l i i = true := by unfold updB; rw [if_pos rfl]
theorem updU_ne {i j : Nat} {v : Value} (h : j ≠ i) : updU u i v j = u j := by unfold updU; rw [if_neg h]
theorem updU_eq (i : Nat) (v : Value) : updU u i v i = v := by unfold updU; rw [if_pos rfl]
theorem Row4.up {n : Nat} {r : List Value} {x : Value} (h : Row4 B tR n r x w) (k : Below w.heap.size w w') : Row4 B tR n r x w' := by
  obtain ⟨A, c, e, h⟩ := h
  exact ⟨A, c, e, own_up h k⟩
theorem SI.up (h : SI tR tP B W ex n7 n11 n17 r7 r11 r17 cab els l u w) (hB : B ≤ w.heap.size) (k : Below w.heap.size w w') : SI tR tP B W ex n7 n11 n17 r7 r11 r17 cab els l u w' :=
  ⟨h.low.trans (k.mono hB), h.exq, h.ord, fun a b => by obtain ⟨g, e, o⟩ := h.s2 a b; exact ⟨g, e, own_up o k⟩, fun a b => (h.s7 a b).up k,
    fun a b => by obtain ⟨g, e, o, q⟩ := h.s10 a b; exact ⟨g, e, o.up k, q⟩, fun a b => (h.s11 a b).up k, fun a => (h.s17 a).up k,
    fun a => by obtain ⟨A, c, e, o⟩ := h.s18 a; exact ⟨A, c, e, own_up o k⟩, fun a => by obtain ⟨X, v0, v1, e, q, o⟩ := h.s19 a; exact ⟨X, v0, v1, e, q, o.up k⟩,
    fun a => by obtain ⟨X, A, c, e, q, o, r⟩ := h.s20 a; exact ⟨X, A, c, e, q, o.up k, own_up r k⟩⟩
theorem SI.start (hb : Below B W w) (hl : ∀ j, l j = false) : SI tR tP B W ex n7 n11 n17 r7 r11 r17 cab els l u w := by
  have no : ∀ {j : Nat} {p : Prop}, l j = true → p := fun {j p} h => by rw [hl j] at h; cases h
  exact ⟨hb, fun j v _ h => no h, ⟨fun h => no h, fun h => no h, fun h => no h, fun h => no h, fun h => no h⟩, fun h => no h, fun h => no h, fun h => no h, fun h => no h, fun h => no h, fun h => no h, fun h => no h, fun h => no h⟩
/-- An operation of which only its value is told. -/
theorem SI.pure (h : SI tR tP B W ex n7 n11 n17 r7 r11 r17 cab els l u w) (i : Nat) (v : Value) (hi : i ≠ 2 ∧ i ≠ 7 ∧ i ≠ 10 ∧ i ≠ 11 ∧ i ≠ 17 ∧ i ≠ 18 ∧ i ≠ 19 ∧ i ≠ 20) (hv : ∀ x, ex i = some x → v = x) :
    SI tR tP B W ex n7 n11 n17 r7 r11 r17 cab els (updB l i) (updU u i v) w := by
  obtain ⟨i2, i7, i10, i11, i17, i18, i19, i20⟩ := hi
  have hex : ∀ j x, ex j = some x → updB l i j = true → updU u i v j = x := fun j x hx hl => by
    by_cases hj : j = i
    · subst hj; rw [updU_eq]; exact hv x hx
    · rw [updU_ne hj]; rw [updB_ne hj] at hl; exact h.exq j x hx hl
  have ho := h.ord
  have a2 := h.s2
  have a7 := h.s7
  have a10 := h.s10
  have a11 := h.s11
  have a17 := h.s17
  have a18 := h.s18
  have a19 := h.s19
  have a20 := h.s20
  refine ⟨h.low, hex, ?_, ?_, ?_, ?_, ?_, ?_, ?_, ?_, ?_⟩ <;>
    simp only [updB_ne (Ne.symm i2), updB_ne (Ne.symm i7), updB_ne (Ne.symm i10), updB_ne (Ne.symm i11), updB_ne (Ne.symm i17), updB_ne (Ne.symm i18), updB_ne (Ne.symm i19), updB_ne (Ne.symm i20),
      updU_ne (Ne.symm i2), updU_ne (Ne.symm i7), updU_ne (Ne.symm i10), updU_ne (Ne.symm i11), updU_ne (Ne.symm i17), updU_ne (Ne.symm i18), updU_ne (Ne.symm i19)] <;> assumption
theorem ex_upd (h : SI tR tP B W ex n7 n11 n17 r7 r11 r17 cab els l u w) (i : Nat) (v : Value) (hi : ex i = none) : ∀ j x, ex j = some x → updB l i j = true → updU u i v j = x := fun j x hx hl => by
  have hj : j ≠ i := by rintro rfl; rw [hi] at hx; cases hx
  rw [updU_ne hj]; rw [updB_ne hj] at hl; exact h.exq j x hx hl
/-- The empty beginning. -/
theorem SI.op2 (h : SI tR tP B W ex n7 n11 n17 r7 r11 r17 cab els l u w) (hB : B ≤ w.heap.size) (hl : l 2 = false) (hx : ex 2 = none) :
    SI tR tP B W ex n7 n11 n17 r7 r11 r17 cab els (updB l 2) (updU u 2 (.slice (some ⟨w.heap.size, 0, none⟩) 0 0)) (w.alloc (.cells #[] tR)) := by
  have k := h.up hB (show Below w.heap.size w (w.alloc (.cells #[] tR)) by go_grown)
  have f : ∀ j, j ≠ 2 → updB l 2 j = l j := fun j => updB_ne
  have fu : ∀ j, j ≠ 2 → updU u 2 (.slice (some ⟨w.heap.size, 0, none⟩) 0 0) j = u j := fun j => updU_ne
  have o := h.ord
  refine ⟨k.low, ex_upd h 2 _ hx, ?_, fun _ _ => ⟨w.heap.size, updU_eq _ _, own_new0 w tR B 4 hB⟩, ?_, ?_, ?_, ?_, ?_, ?_, ?_⟩
  · rw [f 7 (by decide), f 11 (by decide), f 10 (by decide), f 17 (by decide), f 18 (by decide), f 20 (by decide), f 19 (by decide), updB_eq]
    exact ⟨fun _ => rfl, o.2⟩
  · rw [f 7 (by decide), f 11 (by decide), fu 7 (by decide)]; exact k.s7
  · rw [f 10 (by decide), f 11 (by decide), f 7 (by decide), fu 10 (by decide), updU_eq]
    intro a b
    obtain ⟨g, e, p, _⟩ := h.s10 a b
    exact ⟨g, e, p.alloc _, fun _ _ e2 => by have := p.lt; injection e2 with e2; have e3 : w.heap.size = g := e2; omega⟩
  · rw [f 11 (by decide), f 17 (by decide), fu 11 (by decide)]; exact k.s11
  · rw [f 17 (by decide), fu 17 (by decide)]; exact k.s17
  · rw [f 18 (by decide), fu 18 (by decide)]; exact k.s18
  · rw [f 19 (by decide), fu 19 (by decide)]; exact k.s19
  · rw [f 20 (by decide), fu 19 (by decide)]; exact k.s20
/-- The two new rules. -/
theorem SI.op10 (h : SI tR tP B W ex n7 n11 n17 r7 r11 r17 cab els l u w) (hB : B ≤ w.heap.size) (hl : l 10 = false) (hx : ex 10 = none) :
    SI tR tP B W ex n7 n11 n17 r7 r11 r17 cab els (updB l 10) (updU u 10 (.slice (some ⟨w.heap.size, 0, none⟩) 2 2)) (w.alloc (.cells cab.toArray tR)) := by
  have k := h.up hB (show Below w.heap.size w (w.alloc (.cells cab.toArray tR)) by go_grown)
  have f : ∀ j, j ≠ 10 → updB l 10 j = l j := fun j => updB_ne
  have fu : ∀ j, j ≠ 10 → updU u 10 (.slice (some ⟨w.heap.size, 0, none⟩) 2 2) j = u j := fun j => updU_ne
  have o := h.ord
  refine ⟨k.low, ex_upd h 10 _ hx, ?_, ?_, ?_, ?_, ?_, ?_, ?_, ?_, ?_⟩
  · rw [f 7 (by decide), f 2 (by decide), f 11 (by decide), f 17 (by decide), f 18 (by decide), f 20 (by decide), f 19 (by decide), updB_eq]
    exact ⟨o.1, fun a => ⟨(o.2.1 a).1, rfl⟩, o.2.2⟩
  · rw [f 2 (by decide), f 7 (by decide), fu 2 (by decide)]; exact k.s2
  · rw [f 7 (by decide), f 11 (by decide), fu 7 (by decide)]; exact k.s7
  · rw [f 11 (by decide), f 2 (by decide), f 7 (by decide), fu 2 (by decide), updU_eq]
    intro _ _
    refine ⟨w.heap.size, rfl, Blk.new w tR cab, fun a b e => ?_⟩
    obtain ⟨g, e2, o2⟩ := h.s2 a b
    rw [e2] at e
    have := (o2.lt _ e).2
    omega
  · rw [f 11 (by decide), f 17 (by decide), fu 11 (by decide)]; exact k.s11
  · rw [f 17 (by decide), fu 17 (by decide)]; exact k.s17
  · rw [f 18 (by decide), fu 18 (by decide)]; exact k.s18
  · rw [f 19 (by decide), fu 19 (by decide)]; exact k.s19
  · rw [f 20 (by decide), fu 19 (by decide)]; exact k.s20
/-- The new policy's variable. -/
theorem SI.op19 (h : SI tR tP B W ex n7 n11 n17 r7 r11 r17 cab els l u w) (hB : B ≤ w.heap.size) (hl : l 19 = false) (hx : ex 19 = none) (v0 v1 : Value) :
    SI tR tP B W ex n7 n11 n17 r7 r11 r17 cab els (updB l 19) (updU u 19 (.pointer (some ⟨w.heap.size, 0, none⟩))) (w.alloc (.cells #[v0, v1] tP)) := by
  have k := h.up hB (show Below w.heap.size w (w.alloc (.cells #[v0, v1] tP)) by go_grown)
  have f : ∀ j, j ≠ 19 → updB l 19 j = l j := fun j => updB_ne
  have fu : ∀ j, j ≠ 19 → updU u 19 (.pointer (some ⟨w.heap.size, 0, none⟩)) j = u j := fun j => updU_ne
  have o := h.ord
  refine ⟨k.low, ex_upd h 19 _ hx, ?_, ?_, ?_, ?_, ?_, ?_, ?_, ?_, ?_⟩
  · rw [f 7 (by decide), f 2 (by decide), f 11 (by decide), f 10 (by decide), f 17 (by decide), f 18 (by decide), f 20 (by decide), updB_eq]
    exact ⟨o.1, o.2.1, o.2.2.1, o.2.2.2.1, fun a => ⟨(o.2.2.2.2 a).1, rfl⟩⟩
  · rw [f 2 (by decide), f 7 (by decide), fu 2 (by decide)]; exact k.s2
  · rw [f 7 (by decide), f 11 (by decide), fu 7 (by decide)]; exact k.s7
  · rw [f 10 (by decide), f 11 (by decide), f 2 (by decide), f 7 (by decide), fu 2 (by decide), fu 10 (by decide)]; exact k.s10
  · rw [f 11 (by decide), f 17 (by decide), fu 11 (by decide)]; exact k.s11
  · rw [f 17 (by decide), fu 17 (by decide)]; exact k.s17
  · rw [f 18 (by decide), fu 18 (by decide)]; exact k.s18
  · rw [updU_eq]; exact fun _ => ⟨w.heap.size, v0, v1, rfl, hB, Blk.new w tP [v0, v1]⟩
  · rw [f 20 (by decide), updU_eq]
    intro a
    have := (o.2.2.2.2 a).2
    rw [hl] at this
    cases this
theorem row_type {n X T : Nat} {v : Value} {xs cs : List Value} {base size e : Nat} (h : w.ownsRow base e size v n xs) (hX : Blk w X T cs) (hT : e ≠ T) : v.ownBlock ≠ some X := by
  intro hv
  rcases h.2 with ⟨h1, _⟩ | ⟨g1, c1, cur1, rfl, _, hh1, _⟩
  · rw [h1] at hv; cases hv
  · have e1 : g1 = X := by injection hv
    subst e1
    have h2 := hX
    unfold Blk at h2
    rw [hh1] at h2
    injection h2 with h2
    injection h2 with _ e3 _
    exact hT e3
theorem Blk.grow' {g t : Nat} {cs : List Value} {row : Option Nat} (h : Blk w g t cs) (k : w.grownBy w' row) (hr : row ≠ some g) : Blk w' g t cs := (k.block g h.lt (fun e => hr e.symm)).trans h
/-- The first append. -/
theorem SI.op7 (h : SI tR tP B W ex n7 n11 n17 r7 r11 r17 cab els l u w) (hB : B ≤ w.heap.size) (hT : tR ≠ tP) (hl : l 7 = false) (h2 : l 2 = true) (hx : ex 7 = none) {A : Option Addr} {c : Nat} (g : w.grownBy w' (u 2).ownBlock) (hr : w'.ownsRow B tR 4 (.slice A n7 c) n7 r7) :
    SI tR tP B W ex n7 n11 n17 r7 r11 r17 cab els (updB l 7) (updU u 7 (.slice A n7 c)) w' := by
  have f : ∀ j, j ≠ 7 → updB l 7 j = l j := fun j => updB_ne
  have fu : ∀ j, j ≠ 7 → updU u 7 (.slice A n7 c) j = u j := fun j => updU_ne
  have o := h.ord
  obtain ⟨b, e2, o2⟩ := h.s2 h2 hl
  have n11 : l 11 = false := by cases q : l 11 with | false => rfl | true => rw [(o.2.1 q).1] at hl; cases hl
  have n17 : l 17 = false := by cases q : l 17 with | false => rfl | true => rw [o.2.2.1 q] at n11; cases n11
  have n18 : l 18 = false := by cases q : l 18 with | false => rfl | true => rw [o.2.2.2.1 q] at n17; cases n17
  have n20 : l 20 = false := by cases q : l 20 with | false => rfl | true => rw [(o.2.2.2.2 q).1] at n18; cases n18
  refine ⟨h.low.grown g hB (fun k hk => by rw [e2] at hk; exact (o2.lt _ hk).1), ex_upd h 7 _ hx, ?_, ?_, ?_, ?_, ?_, ?_, ?_, ?_, ?_⟩
  · rw [f 2 (by decide), f 11 (by decide), f 10 (by decide), f 17 (by decide), f 18 (by decide), f 20 (by decide), f 19 (by decide), updB_eq]
    exact ⟨fun _ => h2, fun a => ⟨rfl, (o.2.1 a).2⟩, o.2.2⟩
  · rw [updB_eq]; intro _ a; cases a
  · rw [updU_eq]; exact fun _ _ => ⟨A, c, rfl, hr⟩
  · rw [f 10 (by decide), f 11 (by decide), updB_eq, fu 10 (by decide)]
    intro a b
    obtain ⟨g1, e, p, q⟩ := h.s10 a b
    exact ⟨g1, e, p.grow' g (q h2 hl), fun _ a => by cases a⟩
  · rw [f 11 (by decide), n11]; intro a; cases a
  · rw [f 17 (by decide), n17]; intro a; cases a
  · rw [f 18 (by decide), n18]; intro a; cases a
  · rw [f 19 (by decide), fu 19 (by decide)]
    intro a
    obtain ⟨X, v0, v1, e, q, p⟩ := h.s19 a
    exact ⟨X, v0, v1, e, q, p.grow' g (by rw [e2]; exact row_type o2 p hT)⟩
  · rw [f 20 (by decide), n20]; intro a; cases a
/-- The second append. -/
theorem SI.op11 (h : SI tR tP B W ex n7 n11 n17 r7 r11 r17 cab els l u w) (hB : B ≤ w.heap.size) (hT : tR ≠ tP) (hl : l 11 = false) (h7 : l 7 = true) (h10 : l 10 = true) (hx : ex 11 = none) {A : Option Addr} {c : Nat} (g : w.grownBy w' (u 7).ownBlock) (hr : w'.ownsRow B tR 4 (.slice A n11 c) n11 r11) :
    SI tR tP B W ex n7 n11 n17 r7 r11 r17 cab els (updB l 11) (updU u 11 (.slice A n11 c)) w' := by
  have f : ∀ j, j ≠ 11 → updB l 11 j = l j := fun j => updB_ne
  have fu : ∀ j, j ≠ 11 → updU u 11 (.slice A n11 c) j = u j := fun j => updU_ne
  have o := h.ord
  obtain ⟨A7, c7, e7, o7⟩ := h.s7 h7 hl
  have h2 := o.1 h7
  have n17 : l 17 = false := by cases q : l 17 with | false => rfl | true => rw [o.2.2.1 q] at hl; cases hl
  have n18 : l 18 = false := by cases q : l 18 with | false => rfl | true => rw [o.2.2.2.1 q] at n17; cases n17
  have n20 : l 20 = false := by cases q : l 20 with | false => rfl | true => rw [(o.2.2.2.2 q).1] at n18; cases n18
  refine ⟨h.low.grown g hB (fun k hk => by rw [e7] at hk; exact (o7.lt _ hk).1), ex_upd h 11 _ hx, ?_, ?_, ?_, ?_, ?_, ?_, ?_, ?_, ?_⟩
  · rw [f 2 (by decide), f 7 (by decide), f 10 (by decide), f 17 (by decide), f 18 (by decide), f 20 (by decide), f 19 (by decide), updB_eq]
    exact ⟨o.1, fun _ => ⟨h7, h10⟩, fun _ => rfl, o.2.2.2⟩
  · rw [f 7 (by decide), h7]; intro _ a; cases a
  · rw [updB_eq]; intro _ a; cases a
  · rw [updB_eq]; intro _ a; cases a
  · rw [updU_eq]; exact fun _ _ => ⟨A, c, rfl, hr⟩
  · rw [f 17 (by decide), n17]; intro a; cases a
  · rw [f 18 (by decide), n18]; intro a; cases a
  · rw [f 19 (by decide), fu 19 (by decide)]
    intro a
    obtain ⟨X, v0, v1, e, q, p⟩ := h.s19 a
    exact ⟨X, v0, v1, e, q, p.grow' g (by rw [e7]; exact row_type o7 p hT)⟩
  · rw [f 20 (by decide), n20]; intro a; cases a
/-- The third append. -/
theorem SI.op17 (h : SI tR tP B W ex n7 n11 n17 r7 r11 r17 cab els l u w) (hB : B ≤ w.heap.size) (hT : tR ≠ tP) (hl : l 17 = false) (h11 : l 11 = true) (hx : ex 17 = none) {A : Option Addr} {c : Nat} (g : w.grownBy w' (u 11).ownBlock) (hr : w'.ownsRow B tR 4 (.slice A n17 c) n17 r17) :
    SI tR tP B W ex n7 n11 n17 r7 r11 r17 cab els (updB l 17) (updU u 17 (.slice A n17 c)) w' := by
  have f : ∀ j, j ≠ 17 → updB l 17 j = l j := fun j => updB_ne
  have fu : ∀ j, j ≠ 17 → updU u 17 (.slice A n17 c) j = u j := fun j => updU_ne
  have o := h.ord
  obtain ⟨A11, c11, e11, o11⟩ := h.s11 h11 hl
  obtain ⟨h7, h10⟩ := o.2.1 h11
  have n18 : l 18 = false := by cases q : l 18 with | false => rfl | true => rw [o.2.2.2.1 q] at hl; cases hl
  have n20 : l 20 = false := by cases q : l 20 with | false => rfl | true => rw [(o.2.2.2.2 q).1] at n18; cases n18
  refine ⟨h.low.grown g hB (fun k hk => by rw [e11] at hk; exact (o11.lt _ hk).1), ex_upd h 17 _ hx, ?_, ?_, ?_, ?_, ?_, ?_, ?_, ?_, ?_⟩
  · rw [f 2 (by decide), f 7 (by decide), f 10 (by decide), f 11 (by decide), f 18 (by decide), f 20 (by decide), f 19 (by decide), updB_eq]
    exact ⟨o.1, o.2.1, fun _ => h11, fun _ => rfl, o.2.2.2.2⟩
  · rw [f 7 (by decide), h7]; intro _ a; cases a
  · rw [f 11 (by decide), h11]; intro _ a; cases a
  · rw [f 11 (by decide), h11]; intro _ a; cases a
  · rw [updB_eq]; intro _ a; cases a
  · rw [updU_eq]; exact fun _ => ⟨A, c, rfl, hr⟩
  · rw [f 18 (by decide), n18]; intro a; cases a
  · rw [f 19 (by decide), fu 19 (by decide)]
    intro a
    obtain ⟨X, v0, v1, e, q, p⟩ := h.s19 a
    exact ⟨X, v0, v1, e, q, p.grow' g (by rw [e11]; exact row_type o11 p hT)⟩
  · rw [f 20 (by decide), n20]; intro a; cases a
/-- The new policy. -/
theorem SI.op18 (h : SI tR tP B W ex n7 n11 n17 r7 r11 r17 cab els l u w) (hl : l 18 = false) (h17 : l 17 = true) (hx : ex 18 = none) {A : Option Addr} {c : Nat} (e17 : u 17 = .slice A n17 c) :
    SI tR tP B W ex n7 n11 n17 r7 r11 r17 cab els (updB l 18) (updU u 18 (.agg #[.slice A n17 c, .int .i64 els])) w := by
  have f : ∀ j, j ≠ 18 → updB l 18 j = l j := fun j => updB_ne
  have fu : ∀ j, j ≠ 18 → updU u 18 (.agg #[.slice A n17 c, .int .i64 els]) j = u j := fun j => updU_ne
  have o := h.ord
  obtain ⟨A', c', e', o17⟩ := h.s17 h17
  rw [e17] at e'
  injection e' with e1 _ e3
  subst e1 e3
  refine ⟨h.low, ex_upd h 18 _ hx, ?_, ?_, ?_, ?_, ?_, ?_, ?_, ?_, ?_⟩
  · rw [f 2 (by decide), f 7 (by decide), f 10 (by decide), f 11 (by decide), f 17 (by decide), f 20 (by decide), f 19 (by decide), updB_eq]
    exact ⟨o.1, o.2.1, o.2.2.1, fun _ => h17, fun a => ⟨rfl, (o.2.2.2.2 a).2⟩⟩
  · rw [f 2 (by decide), f 7 (by decide), fu 2 (by decide)]; exact h.s2
  · rw [f 7 (by decide), f 11 (by decide), fu 7 (by decide)]; exact h.s7
  · rw [f 10 (by decide), f 11 (by decide), f 2 (by decide), f 7 (by decide), fu 2 (by decide), fu 10 (by decide)]; exact h.s10
  · rw [f 11 (by decide), f 17 (by decide), fu 11 (by decide)]; exact h.s11
  · rw [f 17 (by decide), fu 17 (by decide)]; exact h.s17
  · rw [updU_eq]; exact fun _ => ⟨A, c, rfl, o17⟩
  · rw [f 19 (by decide), fu 19 (by decide)]; exact h.s19
  · rw [f 20 (by decide), fu 19 (by decide)]; exact h.s20
/-- The new policy put into its variable. -/
theorem SI.op20 (h : SI tR tP B W ex n7 n11 n17 r7 r11 r17 cab els l u w) (hT : tR ≠ tP) (hl : l 20 = false) (h18 : l 18 = true) (h19 : l 19 = true) (hx : ex 20 = none) {A : Option Addr} {c X : Nat} (v : Value) (e18 : u 18 = .agg #[.slice A n17 c, .int .i64 els]) (e19 : u 19 = .pointer (some ⟨X, 0, none⟩)) :
    SI tR tP B W ex n7 n11 n17 r7 r11 r17 cab els (updB l 20) (updU u 20 v) ((w.setCell ⟨X, 0, none⟩ (.slice A n17 c)).setCell ⟨X, 1, none⟩ (.int .i64 els)) := by
  have f : ∀ j, j ≠ 20 → updB l 20 j = l j := fun j => updB_ne
  have fu : ∀ j, j ≠ 20 → updU u 20 v j = u j := fun j => updU_ne
  have o := h.ord
  obtain ⟨A', c', e', o18⟩ := h.s18 h18
  rw [e18] at e'
  injection e' with e'
  injection e' with e'
  injection e' with e' _
  injection e' with e1 _ e3
  subst e1 e3
  obtain ⟨X', v0, v1, e', hX, p⟩ := h.s19 h19
  rw [e19] at e'
  injection e' with e'
  injection e' with e'
  injection e' with e'
  subst e'
  have h17 := o.2.2.2.1 h18
  have h11 := o.2.2.1 h17
  obtain ⟨h7, h10⟩ := o.2.1 h11
  have P1 := (p.set_ 0 (.slice A n17 c))
  have P2 := P1.set_ 1 (.int .i64 els)
  have put : ∀ {A1 : Option Addr} {c1 : Nat}, w.ownsRow B tR 4 (.slice A1 n17 c1) n17 r17 → ((w.setCell ⟨X, 0, none⟩ (.slice A n17 c)).setCell ⟨X, 1, none⟩ (.int .i64 els)).ownsRow B tR 4 (.slice A1 n17 c1) n17 r17 := fun q => own_setB (own_setB q p hT _) P1 hT _
  refine ⟨(h.low.setCell (p := ⟨X, 0, none⟩) hX _).setCell (p := ⟨X, 1, none⟩) hX _, ex_upd h 20 _ hx, ?_, ?_, ?_, ?_, ?_, ?_, ?_, ?_, ?_⟩
  · rw [f 2 (by decide), f 7 (by decide), f 10 (by decide), f 11 (by decide), f 17 (by decide), f 18 (by decide), f 19 (by decide), updB_eq]
    exact ⟨o.1, o.2.1, o.2.2.1, o.2.2.2.1, fun _ => ⟨h18, h19⟩⟩
  · rw [f 7 (by decide), h7]; intro _ a; cases a
  · rw [f 11 (by decide), h11]; intro _ a; cases a
  · rw [f 11 (by decide), h11]; intro _ a; cases a
  · rw [f 17 (by decide), h17]; intro _ a; cases a
  · rw [f 17 (by decide), fu 17 (by decide)]
    intro a
    obtain ⟨A7, c7, e7, o7⟩ := h.s17 a
    exact ⟨A7, c7, e7, put o7⟩
  · rw [f 18 (by decide), fu 18 (by decide)]
    intro a
    exact ⟨A, c, e18, put o18⟩
  · rw [f 19 (by decide), fu 19 (by decide)]
    exact fun _ => ⟨X, _, _, e19, hX, P2⟩
  · rw [fu 19 (by decide)]
    exact fun _ => ⟨X, A, c, e19, hX, P2, put o18⟩
end
end Go.Proofs.YtljgaepgblakhaaDoor
