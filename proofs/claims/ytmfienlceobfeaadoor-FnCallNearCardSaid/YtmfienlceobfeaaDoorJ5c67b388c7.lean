/- CallNear, the program: the calls that its iterator hands out, as many as may be tried. Conditions: each contract's own. -/
import Derived.Test.YtmfienlceobfeaaDoorJ5b95715308
import Derived.Test.YtmfienlceobfeaaDoorJ03fc0109a5
import Derived.RangeFuncLeaves
import Derived.Maps.AppendAt
namespace Go.Proofs.YtmfienlceobfeaaDoor
set_option linter.unusedSimpArgs false
open Go.RowKit
set_option linter.unusedVariables false
set_option linter.unnecessarySimpa false
set_option maxRecDepth 20000
attribute [local go_sem] Oper.semAt_some
section
variable {w w' : World} {lo B t BT CT ET n c e size base : Nat} {A : Option Addr} {v : Value} {xs : List Value} {qs : List (List Int × Value)} {row : Option Nat}
theorem own_keptX (h : w.ownsRow base e size v n xs) (k : w.grownBy w' row) (hr : ∀ r, row = some r → ∃ o : Obj, w.heap[r]? = some o ∧ o.isCells = false) : w'.ownsRow base e size v n xs := h.kept k (by
  rcases h.2 with ⟨rfl, _⟩ | ⟨g, cap, cur, rfl, _, hgb, _⟩
  · exact .inl rfl
  · refine .inr fun e' => ?_
    obtain ⟨o, ho, hc⟩ := hr g (by simpa [Value.ownBlock] using e'.symm)
    rw [hgb] at ho; cases ho; cases hc)
theorem Blk.keptX {g t : Nat} {cs : List Value} (h : Blk w g t cs) (k : w.grownBy w' row) (hr : ∀ r, row = some r → ∃ o : Obj, w.heap[r]? = some o ∧ o.isCells = false) : Blk w' g t cs := h.gn k (fun e' => by
  obtain ⟨o, ho, hc⟩ := hr g e'
  rw [show w.heap[g]? = _ from h] at ho; cases ho; cases hc)
theorem own_keepT (h : w.ownsRow base e size v n xs) (k : KeepT B t w w') (he : e ≠ t) : w'.ownsRow base e size v n xs :=
  ⟨h.1, h.2.imp id fun ⟨g, cap, cur, hv, hg, hh, r⟩ => ⟨g, cap, cur, hv, hg, k.block g _ hh (.inr (fun cs fr e2 => by injection e2 with _ e3 _; exact he e3)), r⟩⟩
theorem Blk.keepT {g s : Nat} {cs : List Value} (h : Blk w g s cs) (k : KeepT B t w w') (he : s ≠ t) : Blk w' g s cs := k.block g _ h (.inr (fun cs fr e2 => by injection e2 with _ e3 _; exact he e3))
theorem CO.keptX {q : List Int × Value} (h : CO w lo ET q) (k : w.grownBy w' row) (hr : ∀ r, row = some r → ∃ o : Obj, w.heap[r]? = some o ∧ o.isCells = false) : CO w' lo ET q := ⟨own_keptX h.own k hr, h.five⟩
theorem CO.keepT {q : List Int × Value} (h : CO w lo ET q) (k : KeepT B t w w') (he : ET ≠ t) : CO w' lo ET q := ⟨own_keepT h.own k he, h.five⟩
theorem CO.low {q : List Int × Value} {lo' : Nat} (h : CO w lo ET q) (hl : lo' ≤ lo) : CO w lo' ET q := ⟨own_base h.own hl, h.five⟩
theorem below_keepT {n : Nat} {w0 : World} (h : Below n w0 w) (hn : n ≤ w.heap.size) (k : KeepT B t w w') (hB : n ≤ B) : Below n w0 w' :=
  ⟨k.os.trans h.os, k.tape.trans h.tape, k.output.trans h.output, Nat.le_trans h.size k.size, fun i hi => by
    have hl : i < w.heap.size := by omega
    rw [← h.block i hi]
    exact (k.block i _ (Array.getElem?_eq_getElem hl) (.inl (by omega))).trans (Array.getElem?_eq_getElem hl).symm⟩
end
/-- The calls that have come, in a box. -/
def IQ (bC BT CT ET lo : Nat) (w : World) (qs : List (List Int × Value)) (W : World) : Prop := ∃ A c, Blk W bC BT [.slice A qs.length c] ∧ CP W lo CT ET A qs.length c qs ∧ Below w.heap.size w W
section
variable {bC BT CT ET lo B t : Nat} {w W W' : World} {qs : List (List Int × Value)} {row : Option Nat}
theorem IQ.keptX (h : IQ bC BT CT ET lo w qs W) (k : W.grownBy W' row) (hr : ∀ r, row = some r → w.heap.size ≤ r ∧ ∃ o : Obj, W.heap[r]? = some o ∧ o.isCells = false) : IQ bC BT CT ET lo w qs W' := by
  obtain ⟨A, c, h1, h2, h3⟩ := h
  have hr' := fun r e => (hr r e).2
  exact ⟨A, c, h1.keptX k hr', ⟨own_keptX h2.own k hr', fun q hq => (h2.all q hq).keptX k hr'⟩, h3.grown k h3.size (fun r e => (hr r e).1)⟩
theorem IQ.keepT (h : IQ bC BT CT ET lo w qs W) (k : KeepT B t W W') (hB : w.heap.size ≤ B) (h1 : BT ≠ t) (h2 : CT ≠ t) (h3 : ET ≠ t) : IQ bC BT CT ET lo w qs W' := by
  obtain ⟨A, c, h4, h5, h6⟩ := h
  exact ⟨A, c, h4.keepT k h1, ⟨own_keepT h5.own k h2, fun q hq => (h5.all q hq).keepT k h3⟩, below_keepT h6 h6.size k hB⟩
end
theorem KpN.put {a b c : Nat} (W : World) (l : Nat) (o o' : Obj) (h : W.heap[l]? = some o) (ho : o.isCells = false) : KpN a b c W (W.putObj l o') := by
  refine ⟨(grownBy_putObj' W l o').size, fun k cs ty fr _ hk => (World.putObj_heap_other ?_).trans hk⟩
  rintro rfl
  rw [hk] at h
  cases h
  cases ho
theorem KpN.refl {a b c : Nat} (W : World) : KpN a b c W W := ⟨Nat.le_refl _, fun _ _ _ _ _ h => h⟩
theorem nearC_take (rs : List Rl) (m : Nat) : nearC rs m = (nearAll rs).take m := by
  rw [nearC_all]; unfold nearAll; rw [List.map_take]
theorem KpN.of_below {a b c : Nat} {W W' : World} (h : Below W.heap.size W W') : KpN a b c W W' := ⟨h.size, fun k cs ty fr _ hk => (h.block k (Array.getElem?_eq_some_iff.1 hk).1).trans hk⟩
theorem KpN.gn {a b c lo e size n : Nat} {W W' : World} {v : Value} {xs : List Value} (ho : W.ownsRow lo e size v n xs) (k : W.grownBy W' v.ownBlock) (h1 : e ≠ a) (h2 : e ≠ b) (h3 : e ≠ c) : KpN a b c W W' := by
  refine ⟨k.size, fun i cs ty fr ht hi => (k.block i (Array.getElem?_eq_some_iff.1 hi).1 (fun e' => ?_)).trans hi⟩
  rcases ho.2 with ⟨rfl, _⟩ | ⟨g, cap, cur, rfl, _, hgb, _⟩
  · cases e'
  · obtain rfl : i = g := by simpa [Value.ownBlock] using e'
    rw [hgb] at hi
    injection hi with hi
    injection hi with _ hi _
    subst hi
    rcases ht with h | h | h
    · exact h1 h
    · exact h2 h
    · exact h3 h
theorem KpN.set_ {a b c X T o : Nat} {W : World} {cs : List Value} (hX : Blk W X T cs) (h1 : T ≠ a) (h2 : T ≠ b) (h3 : T ≠ c) (u : Value) : KpN a b c W (W.setCell ⟨X, o, none⟩ u) := by
  refine ⟨by simp, fun i ds ty fr ht hi => (heap_setCell_other W ⟨X, o, none⟩ i u ?_).trans hi⟩
  intro e'
  have e' : i = X := e'
  subst e'
  rw [show W.heap[i]? = _ from hX] at hi
  injection hi with hi
  injection hi with _ hi _
  subst hi
  rcases ht with h | h | h
  · exact h1 h
  · exact h2 h
  · exact h3 h
theorem keepsOthers_gn {lo e size n : Nat} {W W' : World} {v : Value} {xs : List Value} (ho : W.ownsRow lo e size v n xs) (k : W.grownBy W' v.ownBlock) : KeepsOthers W W' := .of_grownBy k (fun j o e' hj => by
  rcases ho.2 with ⟨rfl, _⟩ | ⟨g, cap, cur, rfl, _, hgb, _⟩
  · cases e'
  · obtain rfl : g = j := by simpa [Value.ownBlock] using e'
    rw [hgb] at hj
    injection hj with hj
    rw [← hj]; rfl)
theorem blk_src {w : World} {g t : Nat} {cs : List Value} (h : Blk w g t cs) : ∀ j u, cs[j]? = some u → w.cell? ((⟨g, 0, none⟩ : Addr).add j) = some u := fun j u hu => by
  have e : (⟨g, 0, none⟩ : Addr).add j = ⟨g, j, none⟩ := by
    cases j <;> simp [Addr.add]
  rw [e]; exact h.cell hu
/-- One call more. -/
theorem IQ.app {bC BT CT ET lo n c c' n' : Nat} {w W W1 W2 : World} {pre : List (List Int × Value)} {q : List Int × Value} {A A' : Option Addr} (hX : Blk W bC BT [.slice A n c]) (hC : CP W lo CT ET A n c pre) (hF : Below w.heap.size w W) (hx : CO W lo ET q) (hlo : w.heap.size ≤ lo)
    (hal : Below W.heap.size W W1) (ho : W2.ownsRow lo CT 2 (.slice A' n' c') n' (ccells pre ++ ccells [q])) (hg : W1.grownBy W2 (Value.slice A n c).ownBlock) (h1 : CT ≠ ET) (h2 : CT ≠ BT) (h3 : ET ≠ BT) (hbC : w.heap.size ≤ bC) :
    Blk W2 bC BT [.slice A n c] ∧ IQ bC BT CT ET lo w (pre ++ [q]) (W2.setCell ⟨bC, 0, none⟩ (.slice A' n' c')) ∧ KeepsOthers W1 W2 := by
  have hC1 := hC.up hal
  have hX1 := hX.up hal
  have hX2 : Blk W2 bC BT [.slice A n c] := hX1.gn hg (fun e => by
    rcases hC1.own.2 with ⟨e1, _⟩ | ⟨g, cap, cur, e1, _, hgb, _⟩
    · rw [e1] at e; cases e
    · rw [e1] at e
      obtain rfl : g = bC := by simpa [Value.ownBlock] using e
      rw [show W1.heap[g]? = _ from hX1] at hgb
      injection hgb with hgb
      injection hgb with _ hgb _
      exact h2 hgb.symm)
  have hC2 := hC1.app h1 (hx.up hal) ho hg
  have hl := hC2.len
  have hF1 : Below w.heap.size w W1 := hF.trans (hal.mono hF.size)
  have hF2 : Below w.heap.size w W2 := hF1.grown hg hF1.size (fun b e => by have := (hC1.own.lt b e).1; omega)
  refine ⟨hX2, ⟨A', c', ?_, ?_, ?_⟩, keepsOthers_gn hC1.own hg⟩
  · rw [hl]; exact hX2.set_ 0 _
  · rw [hl]; exact hC2.setB hX2 h2 h3 _
  · exact hF2.setCell (p := ⟨bC, 0, none⟩) hbC _
theorem near_ret {lo CT ET n c D : Nat} {w W : World} {A : Option Addr} {qs : List (List Int × Value)} {cs : List (List Int)} (hC : CP W lo CT ET A n c qs) (hF : Below w.heap.size w W) (he : qs.map Prod.fst = cs) (hl : cs.length = n) (hK : W.heap[D]? = some (.deferred (some []))) (hD : w.heap.size ≤ D) : RetCalls cs w (.returned (.slice A n c)) (W.putObj D (.deferred none)) := by
  have hr : ∀ r, some D = some r → ∃ o : Obj, W.heap[r]? = some o ∧ o.isCells = false := fun r e => by cases e; exact ⟨_, hK, rfl⟩
  have k := grownBy_putObj' W D (.deferred none)
  have hC' : CP (W.putObj D (.deferred none)) lo CT ET A n c qs := ⟨own_keptX hC.own k hr, fun q hq => (hC.all q hq).keptX k hr⟩
  subst hl he
  exact ⟨A, c, rfl, hC'.rd, hF.grown k hF.size (fun r e => by cases e; exact hD)⟩
theorem implNearCalls_c (A : Option Addr) (n c : Nat) (e : Int) (w : World) :
    Calls Tryd.prog 15 #[.agg #[.slice A n c, .int .i64 e]] w (fun x w' => x = .returned (.func (.func 26) #[] #[.pointer (some ⟨w.heap.size, 0, none⟩)]) ∧ w' = w.alloc (.cells #[.slice A n c, .int .i64 e] 25)) := by
  go_enter Tryd.func15, Tryd.ntmps15
  go_wp2
  go_returns
  exact ⟨rfl, rfl⟩
set_option maxHeartbeats 8000000 in
set_option maxRecDepth 100000 in
theorem implCallNear_c (A : Option Addr) (n c : Nat) (rs : List Rl) (e : Int) (w : World) (hn : n ≤ 9223372036854775807) (hr : RdR w w.heap.size A n rs) (hp : PT w w.heap.size) :
    Calls Tryd.prog 5 #[.agg #[.slice A n c, .int .i64 e]] w (RetCalls (nearP ⟨rs, e⟩) w) := by
  have hl1 := hr.1
  subst hl1
  have HR := Lib.hid hr
  have hO1 := fun W h1 h2 => policyOk_c A rs.length c rs e W h1 hn h2
  have HP := Lib.hid hp
  by_cases h1 : polOk ⟨rs, e⟩ = true
  · rw [h1] at hO1
    have HO1 := Lib.hid hO1
    have hB := polOk_rules h1
    have HBB := Lib.hid hB.2
    have h8 := hB.1
    unfold nearP
    rw [if_pos h1]
    clear hO1 h1 hr hp hB
    obtain ⟨i2, hi2, hx0, hx1, hx2⟩ := info_parts info_call
    refine (callsIn_wide (n := 9)).1 ?_
    refine callsIn_of_wp_marks Tryd.func5 rfl trivial ?_ rfl
    simp only [Tryd.ntmps5, List.size_toArray, List.length_cons, List.length_nil, Nat.reduceAdd, Nat.reduceSub, Array.replicate_succ, Array.replicate_zero, List.push_toArray, List.append_toArray, List.nil_append, List.cons_append]
    refine wpIn_wide.2 ?_
    (go_wp2_with fail); (go_at_call 7; refine (HO1.out _ (HR.out.upB (by go_grown) (by go_size)) ((HP.out.below (show Below w.heap.size w _ by go_grown)).more (by (try simp)))).mono ?_; rintro e w1 ⟨rfl, b1⟩; obtain ⟨gc1, gf1⟩ := below_get b1; (try simp only [heap_drew, World.size_alloc, World.size_setCell] at gc1 gf1); have s1 := below_via (w := w) (by go_grown) b1; have H1 := s1; have hs1 := b1.size; (try simp at hs1); have z1_0 : w.heap.size < w1.heap.size := (by omega); clear b1)
    (go_wp2_with fail); (go_at_call 15; refine (implNearCalls_c A rs.length c e _).mono ?_; rintro e w2 ⟨rfl, rfl⟩; skip)
    have HX0 : Hid (Blk ((w1.alloc (.cells #[.slice none 0 0] 27)).alloc (.cells #[.slice A rs.length c, .int .i64 e] 25)) w1.heap.size 27 [.slice none 0 0]) := Lib.hid ((Blk.new w1 27 [.slice none 0 0]).alloc _)
    have HX1 : Hid (Blk ((w1.alloc (.cells #[.slice none 0 0] 27)).alloc (.cells #[.slice A rs.length c, .int .i64 e] 25)) (w1.heap.size + 1) 25 [.slice A rs.length c, .int .i64 e]) := Lib.hid (by simpa using Blk.new (w1.alloc (.cells #[.slice none 0 0] 27)) 25 [.slice A rs.length c, .int .i64 e])
    have HF2 : Hid (Below w.heap.size w ((w1.alloc (.cells #[.slice none 0 0] 27)).alloc (.cells #[.slice A rs.length c, .int .i64 e] 25))) := Lib.hid (below_via H1 (by go_grown))
    have hsz2 : ((w1.alloc (.cells #[.slice none 0 0] 27)).alloc (.cells #[.slice A rs.length c, .int .i64 e] 25)).heap.size = w1.heap.size + 1 + 1 := by simp
    go_wp2_with fail
    generalize (w1.alloc (.cells #[.slice none 0 0] 27)).alloc (.cells #[.slice A rs.length c, .int .i64 e] 25) = W2 at *
    have hR2 : RdR W2 W2.heap.size A rs.length rs := (HR.out.below HF2.out).more HF2.out.size
    refine (wpIn_wide (n := 9)).1 ?_
    refine wpIn_rangeFunc_ownX (F := Fence.wide) rfl (by decide) (gf := 26) (lb := #[.pointer (some ⟨w1.heap.size + 1, 0, none⟩)]) rfl trivial (enters_of Tryd.func26 (by kernel_rfl) rfl) (fun _ => rfl)
      (nearIter A rs.length c (w1.heap.size + 1) 8 rs e W2 h8 hR2 HBB.out HX1.out) (Below.refl _ _) (fun h k => KpN.trans h k) (fun W l o o' _ h ho _ => KpN.put W l o o' h ho)
      (fun pre W => IQ w1.heap.size 27 33 3 w1.heap.size w pre W ∧ pre.length ≤ 600)
      (fun cd pre W => cd = .exit 0 ∧ IQ w1.heap.size 27 33 3 w1.heap.size w (pre.take 600) W ∧ pre.length = 601)
      (fun s X Y row hs hg hr => ⟨hs.1.keptX hg (fun r e => ⟨by have := (hr r e).1; have := HF2.out.size; omega, (hr r e).2⟩), hs.2⟩)
      (fun cd s X Y row hs hg hr => ⟨hs.1, hs.2.1.keptX hg (fun r e => ⟨by have := (hr r e).1; have := HF2.out.size; omega, (hr r e).2⟩), hs.2.2⟩)
      (fun s X Y hs k => ⟨hs.1.keepT k HF2.out.size (by decide) (by decide) (by decide), hs.2⟩)
      (fun cd s X Y hs k => ⟨hs.1, hs.2.1.keepT k HF2.out.size (by decide) (by decide) (by decide), hs.2.2⟩)
      ⟨⟨none, 0, HX0.out, CP.nil_ _ _ _ _, HF2.out⟩, by simp⟩
      (fun x a' W => ∃ Bx, CO W w1.heap.size 3 x ∧ Blk W Bx 33 [.int .i64 (x.1.headD 0), x.2] ∧ a' = { tmps := #[.agg #[.slice A rs.length c, .int .i64 e], .pointer (some ⟨w.heap.size, 0, none⟩), .slice none 0 0, .pointer (some ⟨w1.heap.size, 0, none⟩), .pointer (some ⟨Bx, 0, none⟩), .agg #[.slice A rs.length c, .int .i64 e], .bool true, .bool false, .agg #[.slice A rs.length c, .int .i64 e], .func (.func 26) #[] #[.pointer (some ⟨w1.heap.size + 1, 0, none⟩)], .agg #[.int .i64 (x.1.headD 0), x.2], undef, undef, undef, undef, undef, undef, undef, undef], defers := [] })
      (fun x a' s X Y row ⟨Bx, h1, h2, h3⟩ hg hr => ⟨Bx, h1.keptX hg (fun r e => (hr r e).2), h2.keptX hg (fun r e => (hr r e).2), h3⟩) ?assign ?body ?done ?stop
    case assign =>
      rintro l pre ⟨ws, v⟩ W K ⟨hi, hpl⟩ hx hK
      obtain ⟨TA, tc, rfl⟩ := own_slice hx.own
      rw [show encC (ws, .slice TA 4 tc) = #[.agg #[.int .i64 (ws.headD 0), .slice TA 4 tc]] from rfl]
      dsimp only at hK
      generalize ws.headD 0 = y0 at *
      have hal : Below W.heap.size W (W.alloc (.cells #[.int .i64 y0, .slice TA 4 tc] 33)) := by go_grown
      gi_wp2
      exact hK _ _ ((KeepsOthers.alloc _ _).from _) (KpN.of_below hal) ⟨hi.keepT (KeepT.of_below (B := W.heap.size) (t := 61) hal) (by obtain ⟨_, _, _, _, h⟩ := hi; exact h.size) (by decide) (by decide) (by decide), hpl⟩ ⟨W.heap.size, (hx.low (by omega)).up hal, Blk.new W 33 [.int .i64 y0, .slice TA 4 tc], rfl⟩
    case body =>
      rintro l pre ⟨ws, v⟩ a' W ⟨⟨A1, c1, hX, hC, hF⟩, hpl⟩ ⟨Bx, hx, hB, rfl⟩
      obtain ⟨TA, tc, rfl⟩ := own_slice hx.own
      obtain ⟨y0, hy0⟩ : ∃ y, y = ws.headD 0 := ⟨_, rfl⟩
      dsimp only at hB
      rw [← hy0] at hB ⊢
      have hc0 := hX.cell (i := 0) rfl
      have hcf := hX.free 0
      have hb0 := hB.cell (i := 0) rfl
      have hb1 := hB.cell (i := 1) rfl
      by_cases h6 : pre.length = 600
      · have k6 : ((pre.length : Int) == 600) = true := by simp; omega
        clear hy0
        gi_wp2
        have ht : (pre ++ [(ws, Value.slice TA 4 tc)]).take 600 = pre := by rw [List.take_append_of_le_length (by omega), List.take_of_length_le (by omega)]
        refine ⟨KeepsFrom.refl _ _, rfl, ?_, by simp; omega⟩
        rw [ht]
        exact ⟨A1, c1, hX, hC, hF⟩
      · have k6 : ((pre.length : Int) == 600) = false := by simp; omega
        have hqc : ([.int .i64 y0, .slice TA 4 tc] : List Value) = ccells [(ws, .slice TA 4 tc)] := by unfold ccells; simp only [List.flatMap_cons, List.flatMap_nil, List.append_nil, hy0]
        have HQC := Lib.hid hqc
        clear hqc hy0
        have hs := hF.size
        gi_wp2_with (gi_at_builtin; go_must (refine wpListIn_append_own _ rfl _ _ 27 rfl w1.heap.size 33 i2 _ 2 32 Tryd.underlying27 hi2 hx0 hx1 hx2 rfl (by decide) (.slice A1 pre.length c1) pre.length (ccells pre) rfl (own_up hC.own (by go_grown)) ⟨W.heap.size, 0, none⟩ 1 1 [.int .i64 y0, .slice TA 4 tc] rfl rfl (blk_src (Blk.new W 33 [.int .i64 y0, .slice TA 4 tc])) (fun u hu => by simp at hu; rcases hu with rfl | rfl <;> rfl) (by unfold maxLen; omega) (by omega) (by have := hX.lt; simp; omega) ?_; intro v' w2 ho hg _; obtain ⟨g', cap', rfl⟩ := ownsRow_succ ho; rw [HQC.out] at ho; obtain ⟨hX2, hI2, hk2⟩ := IQ.app hX hC hF hx (by omega) (show Below W.heap.size W (W.alloc (.cells #[.int .i64 y0, .slice TA 4 tc] 33)) by go_grown) ho hg (by decide) (by decide) (by decide) (by omega); have hc2 := hX2.cell (i := 0) rfl; have hcf2 := hX2.free 0))
        refine ⟨(((KeepsOthers.alloc _ _).trans hk2).trans (KeepsOthers.setCell _ _ _)).from _, ?_, hI2, by simp; omega⟩
        exact KpN.trans (KpN.of_below (show Below W.heap.size W (W.alloc (.cells #[.int .i64 y0, .slice TA 4 tc] 33)) by go_grown)) (KpN.trans (KpN.gn (own_up hC.own (show Below W.heap.size W (W.alloc (.cells #[.int .i64 y0, .slice TA 4 tc] 33)) by go_grown)) hg (by decide) (by decide) (by decide)) (KpN.set_ hX2 (by decide) (by decide) (by decide) _))
    case done =>
      rintro D xs W hD hS ⟨⟨A1, c1, hX, hC, hF⟩, hpl⟩ hK
      have hc0 := hX.cell (i := 0) rfl
      go_wp2
      have he : xs.map Prod.fst = nearC rs 600 := by rw [nearC_take, ← hS, List.take_of_length_le (by simpa using hpl)]
      have hcl : (nearC rs 600).length = xs.length := by rw [← he, List.length_map]
      have hs := HF2.out.size
      refine ⟨by simp, .inl ⟨_, _, rfl, run_takeDeferred hK, ?_⟩⟩
      refine ⟨_, results_tmp rfl _ _ _, ?_⟩
      exact near_ret hC hF he hcl hK (by omega)
    case stop =>
      rintro D cd pre W hD hS ⟨rfl, ⟨A1, c1, hX, hC, hF⟩, hpl⟩ hK
      have hc0 := hX.cell (i := 0) rfl
      have hl : (pre.take 600).length = 600 := by rw [List.length_take, hpl]; rfl
      rw [hl] at hX hC hc0
      have he : (pre.take 600).map Prod.fst = nearC rs 600 := by rw [nearC_take, List.map_take, hS, hpl, List.take_take]; rfl
      have hcl : (nearC rs 600).length = 600 := by rw [← he, List.length_map, hl]
      have hs := HF2.out.size
      refine wpIn_wide.2 ?_
      go_wp2
      refine ⟨by simp, .inl ⟨_, _, rfl, run_takeDeferred hK, ?_⟩⟩
      refine ⟨_, results_tmp rfl _ _ _, ?_⟩
      exact near_ret hC hF he hcl hK (by omega)
  · rw [show polOk ⟨rs, e⟩ = false by simpa using h1] at hO1
    have HO1 := Lib.hid hO1
    unfold nearP
    rw [if_neg h1]
    clear hO1 h1 hr hp
    go_enter Tryd.func5, Tryd.ntmps5
    (go_wp2_with fail); (go_at_call 7; refine (HO1.out _ (HR.out.upB (by go_grown) (by go_size)) ((HP.out.below (show Below w.heap.size w _ by go_grown)).more (by (try simp)))).mono ?_; rintro e w1 ⟨rfl, b1⟩; obtain ⟨gc1, gf1⟩ := below_get b1; (try simp only [heap_drew, World.size_alloc, World.size_setCell] at gc1 gf1); have s1 := below_via (w := w) (by go_grown) b1; have H1 := s1; have hs1 := b1.size; (try simp at hs1); have z1_0 : w.heap.size < w1.heap.size := (by omega); clear b1)
    go_wp2
    go_returns
    exact ⟨_, _, rfl, ⟨rfl, fun h => absurd h (by simp)⟩, by go_grown⟩
end Go.Proofs.YtmfienlceobfeaaDoor
