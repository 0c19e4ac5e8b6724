/- Rules copied: copyRules, l2Copy. Conditions: each contract's own. -/
import Derived.Test.YtmfienlceobfeaaDoorJccf418240a
import Derived.Test.YtmfienlceobfeaaDoorJf2b8593729
namespace Go.Proofs.YtmfienlceobfeaaDoor
set_option linter.unusedSimpArgs false
open Go.RowKit
set_option linter.unusedVariables false
set_option linter.unnecessarySimpa false
set_option maxRecDepth 20000
theorem one_rcells {w : World} {lo hi ET : Nat} {qs : List (Rl × Value)} (h : ∀ q ∈ qs, TO w lo hi ET q) : ∀ u ∈ rcells qs, u.oneCell' = true := by
  intro u hu
  simp only [rcells, List.mem_flatMap, qcells, List.mem_cons, List.not_mem_nil, or_false] at hu
  obtain ⟨q, hq, hu⟩ := hu
  rcases hu with rfl | rfl | rfl | rfl
  · rfl
  · rfl
  · rfl
  · obtain ⟨A, c, e⟩ := own_slice (h q hq).own
    rw [e]; rfl
theorem rd_new {w : World} {g : Nat} (hg : w.heap.size = g) (t size n : Nat) (cs : List Value) (h : cs.length = n * size) : Rd (w.alloc (.cells cs.toArray t)) (g + 1) size (some ⟨g, 0, none⟩) n cs := by
  subst hg
  exact ⟨h, fun _ => ⟨w.heap.size, 0, rfl, Nat.lt_succ_self _, fun j u hu => by rw [Nat.zero_add]; exact (Blk.new w t cs).cell hu⟩⟩
/-- The world behind a copied rule: its tests put into the copy, the copy laid out for append. -/
theorem copied {wr w1 : World} {ET ER G c1 m : Nat} {A1 : Option Addr} {v lo hi : Int} {ts : List Tst} (hG : wr.heap.size = G) (hm : ts.length = m) (b1 : Below G wr w1) (hs : G + 1 ≤ w1.heap.size) (o1 : w1.ownsRow (G + 1) ET 4 (.slice A1 m c1) m (tsts ts)) :
    Below G wr ((w1.setCell ⟨G, 3, none⟩ (.slice A1 m c1)).alloc (.cells #[.int .i64 v, .int .i64 lo, .int .i64 hi, .slice A1 m c1] ER)) ∧
    TO ((w1.setCell ⟨G, 3, none⟩ (.slice A1 m c1)).alloc (.cells #[.int .i64 v, .int .i64 lo, .int .i64 hi, .slice A1 m c1] ER)) (G + 1) (w1.heap.size + 1) ET (⟨v, lo, hi, ts⟩, .slice A1 m c1) ∧
    Rd ((w1.setCell ⟨G, 3, none⟩ (.slice A1 m c1)).alloc (.cells #[.int .i64 v, .int .i64 lo, .int .i64 hi, .slice A1 m c1] ER)) (w1.heap.size + 1) 4 (some ⟨w1.heap.size, 0, none⟩) 1 (rcells [(⟨v, lo, hi, ts⟩, .slice A1 m c1)]) := by
  subst hG hm
  have o2 := ownsRow_setCell_below o1 (a := ⟨wr.heap.size, 3, none⟩) (by simp) (.slice A1 ts.length c1)
  refine ⟨(b1.setCell (p := ⟨wr.heap.size, 3, none⟩) (Nat.le_refl _) _).alloc (by simp; omega) _, ⟨own_up o2 (Below.alloc (Below.refl _ _) (Nat.le_refl _) _), fun g e => ?_⟩, rd_new (by simp) ER 4 1 _ rfl⟩
  have := (o1.lt g e).2
  omega
/-- More rules behind those that are there. -/
theorem OP.app {w w' : World} {lo hi hi' ER ET n n' c c' : Nat} {A A' : Option Addr} {qs qs2 : List (Rl × Value)} (h : OP w lo hi ER ET A n c qs) (hE : ER ≠ ET) (h2 : ∀ q ∈ qs2, TO w lo hi' ET q) (hh : hi ≤ hi')
    (ho : w'.ownsRow lo ER 4 (.slice A' n' c') n' (rcells qs ++ rcells qs2)) (hg : w.grownBy w' (Value.slice A n c).ownBlock) (hH : w'.heap.size ≤ hi') : OP w' lo hi' ER ET A' n' c' (qs ++ qs2) := by
  refine ⟨by rw [rcells_app]; exact ho, fun g e => Nat.lt_of_lt_of_le (ho.lt g e).2 hH, fun q hq => ?_⟩
  have key : ∀ q, TO w lo hi' ET q → TO w' lo hi' ET q := fun q hq => by
    refine ⟨hq.own.kept hg ?_, hq.high⟩
    by_cases hn : q.2.ownBlock = none
    · exact .inl hn
    · obtain ⟨g, hgq⟩ := Option.ne_none_iff_exists'.1 hn
      right
      intro e
      exact own_unlike hq.own h.own (Ne.symm hE) g hgq (by rw [← e]; exact hgq)
  rcases List.mem_append.1 hq with hq | hq
  · exact key q ((h.tst q hq).wide (Nat.le_refl _) hh)
  · exact key q (h2 q hq)
/-- The call returns rules in memory of its own. -/
def RetRules (ER ET : Nat) (rs : List Rl) (w : World) (e : Ending) (w' : World) : Prop :=
  ∃ A c qs, e = .returned (.slice A rs.length c) ∧ rls qs = rs ∧ OP w' w.heap.size w'.heap.size ER ET A rs.length c qs ∧ Apart qs ∧ Below w.heap.size w w'
/-- The call returns a policy in memory of its own. -/
def RetPol (ER ET : Nat) (p : Pol) (w : World) (e : Ending) (w' : World) : Prop :=
  ∃ A c qs, e = .returned (.agg #[.slice A p.rs.length c, .int .i64 p.els]) ∧ rls qs = p.rs ∧ OP w' w.heap.size w'.heap.size ER ET A p.rs.length c qs ∧ Apart qs ∧ Below w.heap.size w w'
theorem Apart.new {w : World} {lo hi ER ET n c : Nat} {A : Option Addr} {qs : List (Rl × Value)} (ha : Apart qs) (h : OP w lo hi ER ET A n c qs) {q : Rl × Value} {B : Nat} (hq : ∀ g, q.2.ownBlock = some g → B ≤ g) (hB : hi ≤ B) : Apart (qs ++ [q]) :=
  ha.add fun x hx => by
    by_cases hn : x.2.ownBlock = none
    · exact .inl hn
    · obtain ⟨g, hg⟩ := Option.ne_none_iff_exists'.1 hn
      right
      intro e
      have h1 := (h.tst x hx).high g hg
      have h2 := hq g (by rw [← e]; exact hg)
      omega
theorem ob_of {g o n c b : Nat} (e : (Value.slice (some ⟨g, o, none⟩) n c).ownBlock = some b) : b = g := by
  injection e with e; exact e.symm
theorem Blk.gn {w w' : World} {g t : Nat} {cs : List Value} {row : Option Nat} (h : Blk w g t cs) (k : w.grownBy w' row) (hr : row ≠ some g) : Blk w' g t cs := (k.block g h.lt (fun e => hr e.symm)).trans h
theorem blk_three (w : World) (t s r : Nat) (us vs xs : List Value) : Blk (((w.alloc (.cells us.toArray t)).alloc (.cells vs.toArray s)).alloc (.cells xs.toArray r)) w.heap.size t us ∧ Blk (((w.alloc (.cells us.toArray t)).alloc (.cells vs.toArray s)).alloc (.cells xs.toArray r)) (w.heap.size + 1) s vs ∧ Blk (((w.alloc (.cells us.toArray t)).alloc (.cells vs.toArray s)).alloc (.cells xs.toArray r)) (w.heap.size + 1 + 1) r xs := by
  refine ⟨((Blk.new w t us).alloc _).alloc _, ?_, ?_⟩
  · have := (Blk.new (w.alloc (.cells us.toArray t)) s vs).alloc (.cells xs.toArray r)
    rwa [World.size_alloc] at this
  · have := Blk.new ((w.alloc (.cells us.toArray t)).alloc (.cells vs.toArray s)) r xs
    rwa [World.size_alloc, World.size_alloc] at this
theorem OP.set_ {w : World} {lo hi ER ET n c g o : Nat} {A : Option Addr} {qs : List (Rl × Value)} (h : OP w lo hi ER ET A n c qs) (hg : g < lo ∨ hi ≤ g) (u : Value) : OP (w.setCell ⟨g, o, none⟩ u) lo hi ER ET A n c qs :=
  h.keep (ok := fun t => t ≠ g) ((Keep.refl w _).set_ u (fun t ht _ e => ht e.symm)) (fun t h1 h2 e => by omega)
set_option maxHeartbeats 4000000 in
theorem l2Copy_c (A : Option Addr) (n c : Nat) (rs : List Rl) (e : Int) (w : World) (hr : RdR w w.heap.size A n rs) (hn : n ≤ 1000) (hts : ∀ r ∈ rs, r.ts.length ≤ 1000) :
    Calls Tryd.prog 24 #[.agg #[.slice A n c, .int .i64 e]] w (RetPol 37 52 ⟨rs, e⟩ w) := by
  obtain ⟨i0, hi0, hz0, hz1, hz2⟩ := info_parts info_rule
  obtain ⟨j0, hj0, hy0, hy1, hy2⟩ := info_parts info_test4
  have hl := hr.1
  have HR := Lib.hid hr
  have HT := Lib.hid hts
  have HL := Lib.hid hl
  have hB3 := blk_three w 25 25 25 [.slice A n c, .int .i64 e] [.slice none 0 0, .int .i64 0] [.slice none 0 0, .int .i64 e]
  have HB3 := Lib.hid hB3
  clear hr hts hl hB3
  go_enter Tryd.func24, Tryd.ntmps24
  go_wp2
  go_loopg [4] n (fun gk i wr => ∃ (k : Nat) (Ao : Option Addr) (co : Nat) (qs : List (Rl × Value)), gk + k = n ∧ i = .int .i64 k ∧ Hid (rls qs = rs.take k) ∧ Hid (Blk wr w.heap.size 25 [.slice A n c, .int .i64 e]) ∧ Hid (Blk wr (w.heap.size + 1) 25 [.slice none 0 0, .int .i64 0]) ∧ Hid (Blk wr (w.heap.size + 1 + 1) 25 [.slice Ao k co, .int .i64 e]) ∧
      Hid (OP wr (w.heap.size + 1 + 1 + 1) wr.heap.size 37 52 Ao k co qs) ∧ Hid (Apart qs) ∧ Hid (Below w.heap.size w wr) ∧ w.heap.size + 1 + 1 < wr.heap.size)
  case atStart => exact ⟨0, none, 0, [], by omega, rfl, Lib.hid rfl, HB3.out.1, HB3.out.2.1, HB3.out.2.2, Lib.hid (OP.nil_ _ _ _ _ _), Lib.hid Apart.nil_, by show Below _ _ _; go_grown, by simp⟩
  case round =>
    obtain ⟨k, Ao, co, qs, hgk, rfl, HQ, B0, B1, B2, HO, HA, HB, hz⟩ := hrel
    have hbs := HB.out.size
    have k0 := B0.out.cell (i := 0) rfl
    have x0 := B2.out.cell (i := 0) rfl
    have x1 := B2.out.cell (i := 1) rfl
    have xf := B2.out.free
    by_cases hlt : k < n
    · obtain ⟨gk, rfl⟩ : ∃ m, gk = m + 1 := ⟨gk - 1, by omega⟩
      obtain ⟨b, off, r, rfl, hb, hp, TA, tc, c0, c1, c2, c3, hrt, hrl⟩ := (HR.out.below HB.out).rl hlt
      have HP := Lib.hid hp
      have HRT := Lib.hid ((hrt.more hbs).up (w' := (wr.alloc (.cells #[.int .i64 r.v, .int .i64 r.lo, .int .i64 r.hi, .slice TA r.ts.length tc] 37)).alloc (.cells #[] 52)) (by go_grown))
      have hr4 := HT.out r (List.mem_of_getElem? hp)
      have hE := own_new0 (wr.alloc (.cells #[.int .i64 r.v, .int .i64 r.lo, .int .i64 r.hi, .slice TA r.ts.length tc] 37)) 52 (wr.heap.size + 1) 4 (by simp)
      simp only [World.size_alloc] at hE
      have HE := Lib.hid hE
      have hG := (Blk.new wr 37 [.int .i64 r.v, .int .i64 r.lo, .int .i64 r.hi, .slice TA r.ts.length tc]).alloc (.cells #[] 52)
      have HG := Lib.hid hG
      clear hp hrt hE hG
      have hne : w.heap.size + 1 + 1 ≠ wr.heap.size := by omega
      go_wp2_with (first
        | (at_builtin; refine wpList_append_rd _ rfl _ _ 23 rfl (w.heap.size + 1 + 1 + 1) 37 i0 _ 4 48 Tryd.underlying23 hi0 hz0 hz1 hz2 rfl (by omega) (.slice Ao k co) k (rcells qs) rfl HOW.out.own _ (some ⟨w1.heap.size, 0, none⟩) 1 1 _ rfl HC3.out (one_rcells (fun q hq => by rw [List.mem_singleton.1 hq]; exact HC2.out)) (by unfold maxLen; omega) (by omega) (by simp; omega) ?_; intro A2 c2' w2 ho2 hg2 ha2; have hs2 := hg2.size; simp at hs2; have O2 := Lib.hid (HOW.out.app (by decide) (hi' := w2.heap.size) (fun q hq => by rw [List.mem_singleton.1 hq]; exact HC2.out.wide (by omega) (by omega)) (by omega) ho2 hg2 (Nat.le_refl _)); have P2 := Lib.hid (HA.out.new HO.out (q := (⟨r.v, r.lo, r.hi, r.ts⟩, .slice A1 r.ts.length c1')) (B := wr.heap.size + 1) (fun g e => (HC2.out.lt g e).1) (by omega)); have BB2 := Lib.hid (below_app (below_via HB.out HC1.out) hg2 (fun b e => by have := (HO.out.lt b e).1; omega) (Nat.le_refl _)); have D0 := Lib.hid ((B0.out.up HC1.out).gn hg2 (fun e => by have := (HO.out.lt _ e).1; omega)); have D1 := Lib.hid ((B1.out.up HC1.out).gn hg2 (fun e => by have := (HO.out.lt _ e).1; omega)); have D2 := Lib.hid ((B2.out.up HC1.out).gn hg2 (fun e => by have := (HO.out.lt _ e).1; omega)); have y0 := D2.out.cell (i := 0) rfl; have yf := D2.out.free; clear ho2 hg2 ha2)
        | (at_builtin; refine wpList_append_rd _ rfl _ _ 35 rfl (wr.heap.size + 1) 52 j0 _ 4 32 Tryd.underlying35 hj0 hy0 hy1 hy2 rfl (by omega) _ 0 [] rfl HE.out _ TA r.ts.length tc (tsts r.ts) rfl HRT.out (one_tsts r.ts) (by unfold maxLen; omega) (by omega) (by simp) ?_; intro A1 c1' w1 ho1 hg1 ha1; rw [Nat.zero_add, List.nil_append] at ho1; simp only [Nat.zero_add] at ha1 ⊢; have hs1 := hg1.size; simp at hs1; have b1 := below_app (B := wr.heap.size) (w := wr) (by go_grown) hg1 (fun b e => by have := ob_of e; omega) (Nat.le_refl _); have G1 := Lib.hid (HG.out.gn hg1 (fun e => by have := ob_of e; omega)); have hcp := copied (ER := 37) (v := r.v) (lo := r.lo) (hi := r.hi) rfl rfl b1 (by omega) ho1; have HC1 := Lib.hid hcp.1; have HC2 := Lib.hid hcp.2.1; have HC3 := Lib.hid hcp.2.2; have HOW := Lib.hid (HO.out.up hcp.1); have g0 := G1.out.cell (i := 0) rfl; have g1 := G1.out.cell (i := 1) rfl; have g2 := G1.out.cell (i := 2) rfl; have g3 := G1.out.cell (i := 3) rfl; have gf := G1.out.free; have X2 := Lib.hid (B2.out.up b1); have z0 := X2.out.cell (i := 0) rfl; have zf := X2.out.free; clear ho1 hg1 ha1 hcp))
      go_roundg gk
      case measure => omega
      case rel =>
        go_light
        refine ⟨k + 1, A2, c2', _, by omega, by go_num, ?_, D0.out.far (by simp <;> omega) _, D1.out.far (by simp <;> omega) _, D2.out.set_ 0 _, Lib.hid ((O2.out.set_ (g := w.heap.size + 1 + 1) (o := 0) (.inl (by omega)) _).wide (Nat.le_refl _) (by simp)), P2, Lib.hid (BB2.out.setCell (p := ⟨w.heap.size + 1 + 1, 0, none⟩) (by simp <;> omega) _), by simp; omega⟩
        show _ = _
        rw [rls_app, HQ.out, List.take_add_one, HP.out]; rfl
    · obtain rfl : k = n := by omega
      have b0 := B1.out.cell (i := 0) rfl
      have b1 := B1.out.cell (i := 1) rfl
      have bf := B1.out.free
      go_wp2
      refine bodyPost_ret (v := .agg #[.slice Ao k co, .int .i64 e]) (by simp [results, Tryd.results24, go_sem, b0, b1]) rfl ?_
      go_light
      have h := HQ.out
      rw [List.take_of_length_le (by have := HL.out; omega)] at h
      refine ⟨Ao, co, qs, by rw [HL.out], h, ?_, HA.out, (HB.out.setCell (p := ⟨w.heap.size + 1, 0, none⟩) (by simp) _).setCell (p := ⟨w.heap.size + 1, 1, none⟩) (by simp) _⟩
      show OP _ _ _ _ _ _ rs.length _ _
      rw [HL.out]
      exact ((HO.out.set_ (g := w.heap.size + 1) (o := 0) (.inl (by omega)) _).set_ (g := w.heap.size + 1) (o := 1) (.inl (by omega)) _).wide (by omega) (by simp)
end Go.Proofs.YtmfienlceobfeaaDoor
