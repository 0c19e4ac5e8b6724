/- A law's policy made into the program's, in memory of its own. Conditions: each contract's own. -/
import Derived.Test.YtljgaepgblakhaaDoorCopy
namespace Go.Proofs.YtljgaepgblakhaaDoor
set_option linter.unusedSimpArgs false
open Go.RowKit
set_option linter.unusedVariables false
set_option linter.unnecessarySimpa false
set_option maxRecDepth 20000
theorem to_cells {w : World} {lo hi ER ET n X : Nat} {q : Rl × Value} {v : Value} {ys : List Value} (h : TO w lo hi ET q) (hX : w.ownsRow lo ER 4 v n ys) (hv : v.ownBlock = some X) (hE : ER ≠ ET) (o : Nat) (cs : List Value) : TO (setCells w X o cs) lo hi ET q := by
  have hne := own_unlike hX h.own hE X hv
  have : ∀ (cs : List Value) (o : Nat) (w : World), w.ownsRow lo ET 4 q.2 q.1.ts.length (tsts q.1.ts) → (setCells w X o cs).ownsRow lo ET 4 q.2 q.1.ts.length (tsts q.1.ts) := by
    intro cs
    induction cs with
    | nil => intro o w h; exact h
    | cons u cs ih =>
      intro o w h
      refine ih (o + 1) _ ((Keep.set_ (ok := fun t => t ≠ X) (Keep.refl w _) u (fun t ht _ e => ht e.symm)).own h (fun t ht e => hne (by rw [ht, e])))
  exact ⟨this cs o w h.own, h.high⟩
set_option maxHeartbeats 2000000 in
theorem toRuleSP_c (A : Option Addr) (n c : Nat) (rs : List Rl) (w : World) (hr : RdR w w.heap.size A n rs) (hn : n ≤ 1048576) (hts : ∀ r ∈ rs, r.ts.length ≤ 1048576) :
    Calls Tryd.prog 90 #[.slice A n c] w (RetRules 35 83 rs w) := by
  obtain ⟨i0, hi, hz0, hz1, hz2⟩ := info_parts info_rule
  have HR := Lib.hid hr
  have HT := Lib.hid hts
  clear hr hts
  go_enter Tryd.func90, Tryd.ntmps90
  go_wp2_with (at_make; refine wpList_make_full _ rfl _ _ 23 rfl w.heap.size 35 i0 _ 4 Tryd.underlying23 hi hz0 hz1 .i64 .i64 (n : Int) (n : Int) n rfl rfl rfl rfl ?b2 ?b3 ?b4 ?_)
  case b2 => rw [hz2]; omega
  case b3 => unfold maxLen; omega
  case b4 => exact Nat.le_refl _
  intro w0 hown0 hg0
  have hb0 : Below w.heap.size w w0 := (Below.refl _ _).grown hg0 (Nat.le_refl _) (by simp)
  have HO0 := Lib.hid hown0
  clear hown0 hg0 hi hz0 hz1 hz2
  go_wp2
  go_loopg [4] n (fun gk i wr => ∃ (k : Nat) (ys : List Value) (qs : List (Rl × Value)), gk + k = n ∧ i = .int .i64 k ∧ Hid (wr.ownsRow w.heap.size 35 4 (.slice (some ⟨w.heap.size, 0, none⟩) n n) n ys) ∧ Hid (ys.take (k * 4) = rcells qs) ∧ Hid (rls qs = rs.take k) ∧ Hid (∀ q ∈ qs, TO wr w.heap.size wr.heap.size 83 q) ∧ Hid (Apart qs) ∧ Below w.heap.size w wr)
  case atStart => exact ⟨0, _, [], by omega, rfl, HO0, by simp [Hid, rcells], Lib.hid rfl, Lib.hid (fun q hq => by cases hq), Lib.hid Apart.nil_, hb0⟩
  case round =>
    obtain ⟨k, ys, qs, hgk, rfl, HO, HY, HQ, HT1, HA, hbel⟩ := hrel
    have hbs := hbel.size
    by_cases hlt : k < n
    · obtain ⟨gk, rfl⟩ : ∃ m, gk = m + 1 := ⟨gk - 1, by omega⟩
      obtain ⟨b, off, r, rfl, hb, hp, TA, tc, c0, c1, c2, c3, hrt, hrl⟩ := (HR.out.below hbel).rl hlt
      have HP := Lib.hid hp
      have HRT := Lib.hid hrt
      have hr4 := HT.out r (List.mem_of_getElem? hp)
      have hgl : w.heap.size < wr.heap.size := by
        have h9 := HO.out
        exact (h9.lt w.heap.size rfl).2
      clear hp hrt
      go_wp2_with (go_at_call 123; refine (toRule_c r.v r.lo r.hi TA r.ts.length tc r.ts _ ((HRT.out.more hbel.size).upB (by go_grown) (by go_size)) hr4).mono ?_; rintro e w1 ⟨A1, c1', rfl, hown1, b1⟩; have hb1 := below_on hbel (by go_grown) b1; have B1 := Lib.hid (below_via (w := wr) (by go_grown) b1); have HO1 := Lib.hid (own_up HO.out B1.out); have hs1 := B1.out.size; have HN1 := Lib.hid (show TO w1 w.heap.size w1.heap.size 83 (⟨r.v, r.lo, r.hi, r.ts⟩, .slice A1 r.ts.length c1') from ⟨own_base hown1 (by (try simp) <;> omega), fun g e => (hown1.lt g e).2⟩); have HN2 := Lib.hid (fun g e => (hown1.lt g e).1); have HT2 := Lib.hid (fun q hq => ((HT1.out q hq).up B1.out).wide (Nat.le_refl _) hs1); clear b1 hown1; obtain ⟨⟨y0, y1, y2, y3, e0, e1, e2, e3⟩, f1⟩ := own4 HO1.out hlt)
      go_roundg gk
      case measure => omega
      case rel =>
        go_light
        have hl := HO1.out.1
        have hap : Apart (qs ++ [(⟨r.v, r.lo, r.hi, r.ts⟩, .slice A1 r.ts.length c1')]) := HA.out.add fun x hx => by
          by_cases hn : x.2.ownBlock = none
          · exact .inl hn
          · obtain ⟨g, hg⟩ := Option.ne_none_iff_exists'.1 hn
            right
            intro e
            have h1 := (HT1.out x hx).high g hg
            have h2 := HN2.out g (by rw [← hg, e])
            omega
        refine ⟨k + 1, setL ys (k * 4) (qcells (⟨r.v, r.lo, r.hi, r.ts⟩, .slice A1 r.ts.length c1')), qs ++ [(⟨r.v, r.lo, r.hi, r.ts⟩, .slice A1 r.ts.length c1')], by omega, by go_num, own_setL HO1.out (k * 4) (qcells (⟨r.v, r.lo, r.hi, r.ts⟩, .slice A1 r.ts.length c1')), ?_, ?_, ?_, Lib.hid hap, below_setCells hb1 (Nat.le_refl _) (k * 4) (qcells (⟨r.v, r.lo, r.hi, r.ts⟩, .slice A1 r.ts.length c1'))⟩
        · have h1 := setL_take ys (k * 4) (qcells (⟨r.v, r.lo, r.hi, r.ts⟩, .slice A1 r.ts.length c1')) (by rw [hl]; simp [qcells]; omega)
          show _ = _
          rw [rcells_add, ← HY.out, show (k + 1) * 4 = k * 4 + 4 from by omega]
          exact h1
        · show _ = _
          rw [rls_app, HQ.out, List.take_add_one, HP.out]; rfl
        · show ∀ q ∈ _, TO _ _ _ _ _
          intro q hq
          have h0 : TO w1 w.heap.size w1.heap.size 83 q := by
            rcases List.mem_append.1 hq with hq | hq
            · exact HT2.out q hq
            · rw [List.mem_singleton.1 hq]; exact HN1.out
          have h1 := to_cells h0 HO1.out rfl (by decide) (k * 4) (qcells (⟨r.v, r.lo, r.hi, r.ts⟩, .slice A1 r.ts.length c1'))
          exact h1.wide (Nat.le_refl _) (by simp)
    · obtain rfl : k = n := by omega
      go_wp2
      go_returns
      go_light
      have hl := HR.out.1
      have ho := HO.out
      have hy := HY.out
      rw [List.take_of_length_le (by rw [ho.1]; exact Nat.le_refl _)] at hy
      rw [hy] at ho
      have hq := HQ.out
      rw [List.take_of_length_le (by omega)] at hq
      refine ⟨some ⟨w.heap.size, 0, none⟩, k, qs, by rw [hl]; rfl, hq, ?_, HA.out, hbel⟩
      rw [hl]
      exact ⟨ho, fun g e => (ho.lt g e).2, HT1.out⟩
theorem toPolicyP_c (A : Option Addr) (n c : Nat) (rs : List Rl) (e : Int) (w : World) (hr : RdR w w.heap.size A n rs) (hn : n ≤ 1048576) (hts : ∀ r ∈ rs, r.ts.length ≤ 1048576) :
    Calls Tryd.prog 40 #[.agg #[.slice A n c, .int .i64 e]] w (RetPol 35 83 ⟨rs, e⟩ w) := by
  have HR := Lib.hid hr
  have HT := Lib.hid hts
  clear hr hts
  go_enter Tryd.func40, Tryd.ntmps40
  go_wp2_with (go_at_call 90; refine (toRuleSP_c A n c rs _ (HR.out.upB (by go_grown) (by go_size)) hn HT.out).mono ?_; rintro e w1 ⟨A2, c2, qs, rfl, hq, o2, p2, b2⟩; have O2 := Lib.hid o2; have P2 := Lib.hid p2; have HQ := Lib.hid hq; clear o2 p2 hq; obtain ⟨gc, gf⟩ := below_get b2; have hb := below_via (w := w) (by go_grown) b2; have hs2 := b2.size; (try simp at hs2))
  refine bodyPost_ret (v := .agg #[.slice A2 rs.length c2, .int .i64 e]) (by simp [results, Tryd.results40, go_sem, gc]) rfl ?_
  go_light
  have h := ((((O2.out.set_ (g := w.heap.size + 1 + 1) (o := 0) (.inl (by simp)) (.slice A2 rs.length c2)).set_ (g := w.heap.size + 1 + 1) (o := 1) (.inl (by simp)) (.int .i64 e)).set_ (g := w.heap.size + 1) (o := 0) (.inl (by simp)) (.slice A2 rs.length c2)).set_ (g := w.heap.size + 1) (o := 1) (.inl (by simp)) (.int .i64 e)).wide (lo' := w.heap.size) (hi' := w1.heap.size) (by simp; omega) (Nat.le_refl _)
  exact ⟨A2, c2, qs, rfl, HQ.out, by simpa using h, P2.out, by go_grown⟩
end Go.Proofs.YtljgaepgblakhaaDoor
