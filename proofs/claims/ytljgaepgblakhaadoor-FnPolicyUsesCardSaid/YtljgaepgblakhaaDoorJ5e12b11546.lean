/- PolicyUses: both sides. Conditions: each contract's own. -/
import Derived.Test.YtljgaepgblakhaaDoorSortInts
import Derived.Test.YtljgaepgblakhaaDoorJf9dd0ade97
import Derived.Test.YtljgaepgblakhaaDoorJ1c264d9e97
import Derived.Deep.LoopGhost
import Derived.Deep.DeepCutAuto
namespace Go.Proofs.YtljgaepgblakhaaDoor
set_option linter.unusedSimpArgs false
open Go.RowKit
set_option linter.unusedVariables false
set_option linter.unnecessarySimpa false
set_option maxRecDepth 20000
/-- The fields that rules look at, in their order. -/
def rU (r : Rl) : List Int := (if 0 < r.lo ∨ r.hi < 4294967295 then [0] else []) ++ r.ts.map Tst.f
def flds (rs : List Rl) : List Int := rs.flatMap rU
def usesR (rs : List Rl) : List Int := ([0, 1, 2, 3, 4] : List Int).filter fun f => decide (f ∈ flds rs)
def usesP (p : Pol) : List Int := if polOk p = true then usesR p.rs else []
theorem flds_at {rs : List Rl} {k : Nat} {r : Rl} (h : rs[k]? = some r) : flds (rs.take (k + 1)) = flds (rs.take k) ++ rU r := by
  unfold flds
  rw [List.take_add_one, h, List.flatMap_append]; simp
theorem flds_in {rs : List Rl} (h : rs.all ruleB = true) : ∀ x ∈ flds rs, 0 ≤ x ∧ x ≤ 4 := by
  intro x hx
  unfold flds at hx
  obtain ⟨r, hr, hx⟩ := List.mem_flatMap.1 hx
  unfold rU at hx
  rw [List.mem_append] at hx
  rcases hx with hx | hx
  · split at hx
    · rw [List.mem_singleton] at hx; omega
    · cases hx
  · obtain ⟨t, ht, rfl⟩ := List.mem_map.1 hx
    rw [List.all_eq_true] at h
    have h2 := (rule_and (h r hr)).2.2.2.2.2
    rw [List.all_eq_true] at h2
    have := tst_and (h2 t ht)
    omega
theorem uses_uniq {rs : List Rl} (h : rs.all ruleB = true) : uniqI (flds rs) = usesR rs := by
  have hin := flds_in h
  obtain ⟨h1, h2⟩ := uniqI_spec (flds rs)
  refine asc_ext _ _ h1 (List.Pairwise.filter _ (by decide)) fun x => ?_
  rw [h2]
  unfold usesR
  rw [List.mem_filter, decide_eq_true_eq]
  refine ⟨fun hx => ⟨?_, hx⟩, fun hx => hx.2⟩
  obtain ⟨a, b⟩ := hin x hx
  have : x = 0 ∨ x = 1 ∨ x = 2 ∨ x = 3 ∨ x = 4 := by omega
  rcases this with rfl | rfl | rfl | rfl | rfl <;> simp
theorem usesR_len (rs : List Rl) : (usesR rs).length ≤ 5 := by
  unfold usesR
  exact List.length_filter_le _ _
theorem rU_yes {r : Rl} (h : 0 < r.lo ∨ r.hi < 4294967295) : rU r = [0] ++ r.ts.map Tst.f := by unfold rU; rw [if_pos h]
theorem rU_no {r : Rl} (h : ¬ (0 < r.lo ∨ r.hi < 4294967295)) : rU r = r.ts.map Tst.f := by unfold rU; rw [if_neg h]; rfl
theorem rU_len (r : Rl) : (rU r).length ≤ 1 + r.ts.length := by
  unfold rU
  rw [List.length_append, List.length_map]
  split <;> simp
theorem one_int (x : Int) : ∀ u ∈ [Value.int .i64 x], u.oneCell' = true := by
  intro u hu
  rw [List.mem_singleton.1 hu]; rfl
theorem ints_add (zs : List Int) (x : Int) : ints zs ++ [.int .i64 x] = ints (zs ++ [x]) := by simp [ints]
theorem own_cast {w : World} {base e n n' c : Nat} {A : Option Addr} {xs xs' : List Value} (h : w.ownsRow base e 1 (.slice A n c) n xs) (hx : xs = xs') (hn : n' = n) : w.ownsRow base e 1 (.slice A n' c) n' xs' := by subst hx hn; exact h
theorem ob_appI {A A2 : Option Addr} {n c n2 c2 S K : Nat} (ha : (Value.slice A2 n2 c2).ownBlock = (Value.slice A n c).ownBlock ∨ (Value.slice A2 n2 c2).ownBlock = some S) (h : ∀ b, (Value.slice A n c).ownBlock = some b → K ≤ b) (hS : K ≤ S) : ∀ b, (Value.slice A2 n2 c2).ownBlock = some b → K ≤ b := by
  intro b hb
  rcases ha with ha | ha
  · exact h b (by rw [← ha]; exact hb)
  · rw [ha] at hb
    injection hb with hb
    omega
theorem policyUses_no (A : Option Addr) (n c : Nat) (rs : List Rl) (e : Int) (w : World) (hn : n ≤ 9223372036854775807) (hr : RdR w w.heap.size A n rs) (hp : PT w w.heap.size) (h1 : polOk ⟨rs, e⟩ = false) :
    Calls Tryd.prog 33 #[.agg #[.slice A n c, .int .i64 e]] w (RetOwn 3 1 0 (ints []) w) := by
  have HR := Lib.hid hr
  have HP := Lib.hid hp
  have hO1 := fun W h h' => policyOk_c A n c rs e W h hn h'
  rw [h1] at hO1
  have HO1 := Lib.hid hO1
  clear hr hp hO1 h1
  go_enter Tryd.func33, Tryd.ntmps33
  (go_wp2_with fail); (go_at_call 17; refine (HO1.out _ (HR.out.upB (by go_grown) (by go_size)) ((HP.out.below (by go_grown)).more (by simp <;> omega))).mono ?_; rintro e w1 ⟨rfl, b1⟩; obtain ⟨gc1, gf1⟩ := below_get b1; (try simp only [heap_drew, World.size_alloc, World.size_setCell] at gc1 gf1); have s1 := below_via (w := w) (by go_grown) b1; have H1 := s1; have hs1 := b1.size; (try simp at hs1); have z1_0 : w.heap.size < w1.heap.size := (by omega); clear b1)
  go_wp2
  go_returns
  exact ⟨none, 0, rfl, World.ownsRow_nil _ _ _ _, by go_grown⟩
set_option maxHeartbeats 8000000 in
set_option maxRecDepth 100000 in
theorem policyUses_yes (A : Option Addr) (n c : Nat) (rs : List Rl) (e : Int) (w : World) (hn : n ≤ 9223372036854775807) (hr : RdR w w.heap.size A n rs) (hp : PT w w.heap.size) (h1 : polOk ⟨rs, e⟩ = true) :
    Calls Tryd.prog 33 #[.agg #[.slice A n c, .int .i64 e]] w (RetOwn 3 1 (usesR rs).length (ints (usesR rs)) w) := by
  obtain ⟨i0, hi0, hz0, hz1, hz2⟩ := info_parts info_int
  have hl1 := hr.1
  subst hl1
  have HR := Lib.hid hr
  have HP := Lib.hid hp
  have hA8 := (polOk_rules h1).1
  have HTS := Lib.hid (polOk_ts h1)
  have HU := Lib.hid (uses_uniq (polOk_rules h1).2)
  have hO1 := fun W h h' => policyOk_c A rs.length c rs e W h hn h'
  rw [h1] at hO1
  have HO1 := Lib.hid hO1
  clear hr hp hO1 h1
  go_enter Tryd.func33, Tryd.ntmps33
  (go_wp2_with fail); (go_at_call 17; refine (HO1.out _ (HR.out.upB (by go_grown) (by go_size)) ((HP.out.below (by go_grown)).more (by simp <;> omega))).mono ?_; rintro e w1 ⟨rfl, b1⟩; obtain ⟨gc1, gf1⟩ := below_get b1; (try simp only [heap_drew, World.size_alloc, World.size_setCell] at gc1 gf1); have s1 := below_via (w := w) (by go_grown) b1; have H1 := s1; have hs1 := b1.size; (try simp at hs1); have z1_0 : w.heap.size < w1.heap.size := (by omega); clear b1)
  have H1' := Lib.hid H1
  go_wp2_with fail
  clear gc1 gf1 s1 H1
  go_loopg [3, 14] rs.length (fun gk v i wr => ∃ (k : Nat) (A' : Option Addr) (c' : Nat) (zs : List Int), gk + k = rs.length ∧ i = .int .i64 k ∧ v = .slice A' zs.length c' ∧ zs.length ≤ 5 * k ∧ Hid (zs = flds (rs.take k)) ∧ Hid (wr.ownsRow (w.heap.size + 1) 3 1 (.slice A' zs.length c') zs.length (ints zs)) ∧ Hid (Below w.heap.size w wr) ∧ w.heap.size + 1 ≤ wr.heap.size)
  case atStart => exact ⟨0, none, 0, [], by omega, rfl, rfl, by simp, Lib.hid (by simp [flds]), Lib.hid (World.ownsRow_nil _ _ _ _), H1', by omega⟩
  case round =>
    obtain ⟨k, A', c', zs, hgk, rfl, rfl, hzl, HZ, HO, HF, hsz⟩ := hrel
    have hbs := HF.out.size
    by_cases hk : gk = 0
    · subst hk
      obtain rfl : k = rs.length := by omega
      rw [List.take_length] at HZ
      have HS := Lib.hid (fun W h => sortInts_c (.slice A' zs.length c') zs.length zs (w.heap.size + 1) W h (by omega))
      have hC := fun W h => compactInts_c A' zs.length c' (sortI zs) (w.heap.size + 1) W h (by omega)
      rw [show Lib.compact (sortI zs) = usesR rs from by rw [HZ.out]; exact HU.out] at hC
      have HC := Lib.hid hC
      have hul := usesR_len rs
      clear hC HU
      generalize usesR rs = us at *
      (go_wp2_with fail); (go_at_call 83; refine (HS.out _ HO.out).mono ?_; rintro e w5 ⟨rfl, o5, g5⟩; have O5 := Lib.hid o5; have L5 := Lib.hid (HF.out.grown g5 hbs (fun b e => by have := (HO.out.lt b e).1; omega)); have hs5 := g5.size; clear o5 g5)
      (go_wp2_with fail); (go_at_call 84; refine (HC.out _ O5.out).mono ?_; rintro e w6 ⟨rfl, o6, g6⟩; have O6 := Lib.hid o6; have L6 := Lib.hid (L5.out.grown g6 (by omega) (fun b e => by have := (O5.out.lt b e).1; omega)); clear o6 g6)
      go_wp2
      go_returns
      exact ⟨A', c', rfl, own_base O6.out (by omega), L6.out⟩
    · obtain ⟨gk, rfl⟩ : ∃ m, gk = m + 1 := ⟨gk - 1, by omega⟩
      have hlt : k < rs.length := by omega
      obtain ⟨b, off, r, rfl, hb, hp, TA, tc, e0, e1, e2, e3, hrt, hrl⟩ := HR.out.rl hlt
      have c0 := (HF.out.cell (p := ⟨b, off + k * 4, none⟩) hb).trans e0
      have c1 := (HF.out.cell (p := ⟨b, off + k * 4 + 1, none⟩) hb).trans e1
      have c2 := (HF.out.cell (p := ⟨b, off + k * 4 + 2, none⟩) hb).trans e2
      have c3 := (HF.out.cell (p := ⟨b, off + k * 4 + 3, none⟩) hb).trans e3
      clear e0 e1 e2 e3
      have hb2 : b < wr.heap.size := by omega
      have HPP := Lib.hid hp
      have HT0 : Hid (Rd w w.heap.size 4 TA r.ts.length (tsts r.ts)) := Lib.hid hrt
      have h4 := HTS.out r (List.mem_of_getElem? hp)
      have HFA := Lib.hid (flds_at hp)
      have HX := Lib.hid (Blk.new wr 35 [.int .i64 r.v, .int .i64 r.lo, .int .i64 r.hi, .slice TA r.ts.length tc])
      clear hp hrt
      obtain ⟨ga, rfl⟩ : ∃ x : Nat, x = gk := ⟨_, rfl⟩
      obtain ⟨wo, rfl⟩ : ∃ x : World, x = wr := ⟨_, rfl⟩
      by_cases hlo : 0 < r.lo
      · have f1 : decide (0 < r.lo) = true := by simpa using hlo
        have HRU := Lib.hid (rU_yes (r := r) (.inl hlo))
        clear hlo
        have HCC : Hid (Rd ((wo.alloc (.cells #[.int .i64 r.v, .int .i64 r.lo, .int .i64 r.hi, .slice TA r.ts.length tc] 35)).alloc (.cells #[.int .i64 0] 3)) (wo.heap.size + 1 + 1) 1 (some ⟨wo.heap.size + 1, 0, none⟩) 1 [.int .i64 0]) := Lib.hid (rd_new (w := wo.alloc (.cells #[.int .i64 r.v, .int .i64 r.lo, .int .i64 r.hi, .slice TA r.ts.length tc] 35)) (by simp) 3 1 1 [.int .i64 0] rfl)
        have HOW := Lib.hid (own_up HO.out (w' := (wo.alloc (.cells #[.int .i64 r.v, .int .i64 r.lo, .int .i64 r.hi, .slice TA r.ts.length tc] 35)).alloc (.cells #[.int .i64 0] 3)) (by go_grown))
        have hob : ∀ b, (Value.slice A' zs.length c').ownBlock = some b → w.heap.size + 1 ≤ b ∧ b < wo.heap.size := fun b hb => HO.out.lt b hb
        have HOB := Lib.hid hob
        clear hob
        go_upto_region 9 with (at_builtin; go_must (refine wpList_append_rd _ rfl _ _ 26 rfl (w.heap.size + 1) 3 i0 _ 1 8 Tryd.underlying26 hi0 hz0 hz1 hz2 rfl (by omega) (.slice A' zs.length c') zs.length (ints zs) rfl HOW.out _ (some ⟨wo.heap.size + 1, 0, none⟩) 1 1 _ rfl HCC.out (one_int 0) (by unfold maxLen; omega) (by omega) (by simp; omega) ?_; intro A5 c5 w5 ho5 hg5 ha5; have hs5 := hg5.size; (try simp at hs5); have O5 := Lib.hid ho5; have X5 := Lib.hid ((HX.out.alloc _).gn hg5 (fun e => by have := (HOB.out _ e).2; omega)); have L5 := Lib.hid ((show Below w.heap.size w _ from below_via HF.out (by go_grown)).grown hg5 (by (try simp); omega) (fun b e => by have := (HOB.out b e).1; omega)); clear ho5 hg5 ha5))
        have x53 := X5.out.cell (i := 3) rfl
        have zW : wo.heap.size < w5.heap.size := by (try simp) <;> omega
        go_wp2_with fail
        go_loopg [3, 32] r.ts.length (fun gj v j wr => ∃ (m : Nat) (A' : Option Addr) (c' : Nat) (ys : List Int), gj + m = r.ts.length ∧ j = .int .i64 m ∧ v = .slice A' ys.length c' ∧ ys.length ≤ 5 * k + 1 + m ∧ Hid (ys = (zs ++ [0]) ++ (r.ts.take m).map Tst.f) ∧ Hid (wr.ownsRow (w.heap.size + 1) 3 1 (.slice A' ys.length c') ys.length (ints ys)) ∧ Hid (Below w.heap.size w wr) ∧ wo.heap.size < wr.heap.size)
        case atStart => exact ⟨0, A5, c5, (zs ++ [0]), by omega, rfl, by simp, by simp <;> omega, Lib.hid (by simp), Lib.hid (own_cast O5.out (by rw [ints_add]) (by simp)), L5, zW⟩
        case round =>
          obtain ⟨m, A', c', ys, hgm, rfl, rfl, hyl, HY, HO', HF', hsz'⟩ := hrel
          have hbs' := HF'.out.size
          by_cases hj : gk = 0
          · subst hj
            obtain rfl : m = r.ts.length := by omega
            rw [List.take_length] at HY
            have HN : Hid (ys = flds (rs.take (k + 1))) := Lib.hid (by rw [HY.out, HFA.out, HRU.out, HZ.out]; try simp)
            go_wp2
            go_roundg ga
            case measure => omega
            case rel =>
              go_light
              exact ⟨k + 1, A', c', ys, by omega, by go_num, rfl, by omega, HN, HO', HF', by omega⟩
          · obtain ⟨gk, rfl⟩ : ∃ x, gk = x + 1 := ⟨gk - 1, by omega⟩
            have hlm : m < r.ts.length := by omega
            have hrt2 : Rd wr w.heap.size 4 TA r.ts.length (tsts r.ts) := HT0.out.below HF'.out
            obtain ⟨tb, toff, t, rfl, htb, ht, t0, t1, t2, t3⟩ := hrt2.tst hlm
            have HTK := Lib.hid ht
            clear ht hrt2
            have HCC2 : Hid (Rd ((wr.alloc (.cells #[.int .i64 t.f, .int .i64 t.m, .int .i64 t.op, .int .i64 t.x] 83)).alloc (.cells #[.int .i64 t.f] 3)) (wr.heap.size + 1 + 1) 1 (some ⟨wr.heap.size + 1, 0, none⟩) 1 [.int .i64 t.f]) := Lib.hid (rd_new (w := wr.alloc (.cells #[.int .i64 t.f, .int .i64 t.m, .int .i64 t.op, .int .i64 t.x] 83)) (by simp) 3 1 1 [.int .i64 t.f] rfl)
            have HOW2 := Lib.hid (own_up HO'.out (w' := (wr.alloc (.cells #[.int .i64 t.f, .int .i64 t.m, .int .i64 t.op, .int .i64 t.x] 83)).alloc (.cells #[.int .i64 t.f] 3)) (by go_grown))
            have hob2 : ∀ b, (Value.slice A' ys.length c').ownBlock = some b → w.heap.size + 1 ≤ b := fun b hb => (HO'.out.lt b hb).1
            have HOB2 := Lib.hid hob2
            clear hob2
            go_wp2_with (at_builtin; go_must (refine wpList_append_rd _ rfl _ _ 26 rfl (w.heap.size + 1) 3 i0 _ 1 8 Tryd.underlying26 hi0 hz0 hz1 hz2 rfl (by omega) (.slice A' ys.length c') ys.length (ints ys) rfl HOW2.out _ (some ⟨wr.heap.size + 1, 0, none⟩) 1 1 _ rfl HCC2.out (one_int t.f) (by unfold maxLen; omega) (by omega) (by simp; omega) ?_; intro A6 c6 w6 ho6 hg6 ha6; have hs6 := hg6.size; (try simp at hs6); have O6 := Lib.hid ho6; have L6 := Lib.hid ((show Below w.heap.size w _ from below_via HF'.out (by go_grown)).grown hg6 (by (try simp); omega) (fun b e => by have := HOB2.out b e; omega)); clear ho6 hg6 ha6))
            go_roundg gk
            case measure => omega
            case rel =>
              go_light
              have e1 : (ys ++ [t.f]).length = ys.length + 1 := by simp
              refine ⟨m + 1, A6, c6, ys ++ [t.f], by omega, by go_num, by rw [e1], by rw [e1]; omega, ?_, ?_, L6, by omega⟩
              · show _ = _
                rw [HY.out, List.take_add_one, HTK.out]; simp
              · have := O6.out
                rw [ints_add] at this
                rw [e1]
                exact Lib.hid this
      · have f1 : decide (0 < r.lo) = false := by simpa using hlo
        by_cases hhi : r.hi < 4294967295
        · have f2 : decide (r.hi < 4294967295) = true := by simpa using hhi
          have HRU := Lib.hid (rU_yes (r := r) (.inr hhi))
          clear hlo hhi
          have HCC : Hid (Rd ((wo.alloc (.cells #[.int .i64 r.v, .int .i64 r.lo, .int .i64 r.hi, .slice TA r.ts.length tc] 35)).alloc (.cells #[.int .i64 0] 3)) (wo.heap.size + 1 + 1) 1 (some ⟨wo.heap.size + 1, 0, none⟩) 1 [.int .i64 0]) := Lib.hid (rd_new (w := wo.alloc (.cells #[.int .i64 r.v, .int .i64 r.lo, .int .i64 r.hi, .slice TA r.ts.length tc] 35)) (by simp) 3 1 1 [.int .i64 0] rfl)
          have HOW := Lib.hid (own_up HO.out (w' := (wo.alloc (.cells #[.int .i64 r.v, .int .i64 r.lo, .int .i64 r.hi, .slice TA r.ts.length tc] 35)).alloc (.cells #[.int .i64 0] 3)) (by go_grown))
          have hob : ∀ b, (Value.slice A' zs.length c').ownBlock = some b → w.heap.size + 1 ≤ b ∧ b < wo.heap.size := fun b hb => HO.out.lt b hb
          have HOB := Lib.hid hob
          clear hob
          go_upto_region 9 with (at_builtin; go_must (refine wpList_append_rd _ rfl _ _ 26 rfl (w.heap.size + 1) 3 i0 _ 1 8 Tryd.underlying26 hi0 hz0 hz1 hz2 rfl (by omega) (.slice A' zs.length c') zs.length (ints zs) rfl HOW.out _ (some ⟨wo.heap.size + 1, 0, none⟩) 1 1 _ rfl HCC.out (one_int 0) (by unfold maxLen; omega) (by omega) (by simp; omega) ?_; intro A5 c5 w5 ho5 hg5 ha5; have hs5 := hg5.size; (try simp at hs5); have O5 := Lib.hid ho5; have X5 := Lib.hid ((HX.out.alloc _).gn hg5 (fun e => by have := (HOB.out _ e).2; omega)); have L5 := Lib.hid ((show Below w.heap.size w _ from below_via HF.out (by go_grown)).grown hg5 (by (try simp); omega) (fun b e => by have := (HOB.out b e).1; omega)); clear ho5 hg5 ha5))
          have x53 := X5.out.cell (i := 3) rfl
          have zW : wo.heap.size < w5.heap.size := by (try simp) <;> omega
          go_wp2_with fail
          go_loopg [3, 32] r.ts.length (fun gj v j wr => ∃ (m : Nat) (A' : Option Addr) (c' : Nat) (ys : List Int), gj + m = r.ts.length ∧ j = .int .i64 m ∧ v = .slice A' ys.length c' ∧ ys.length ≤ 5 * k + 1 + m ∧ Hid (ys = (zs ++ [0]) ++ (r.ts.take m).map Tst.f) ∧ Hid (wr.ownsRow (w.heap.size + 1) 3 1 (.slice A' ys.length c') ys.length (ints ys)) ∧ Hid (Below w.heap.size w wr) ∧ wo.heap.size < wr.heap.size)
          case atStart => exact ⟨0, A5, c5, (zs ++ [0]), by omega, rfl, by simp, by simp <;> omega, Lib.hid (by simp), Lib.hid (own_cast O5.out (by rw [ints_add]) (by simp)), L5, zW⟩
          case round =>
            obtain ⟨m, A', c', ys, hgm, rfl, rfl, hyl, HY, HO', HF', hsz'⟩ := hrel
            have hbs' := HF'.out.size
            by_cases hj : gk = 0
            · subst hj
              obtain rfl : m = r.ts.length := by omega
              rw [List.take_length] at HY
              have HN : Hid (ys = flds (rs.take (k + 1))) := Lib.hid (by rw [HY.out, HFA.out, HRU.out, HZ.out]; try simp)
              go_wp2
              go_roundg ga
              case measure => omega
              case rel =>
                go_light
                exact ⟨k + 1, A', c', ys, by omega, by go_num, rfl, by omega, HN, HO', HF', by omega⟩
            · obtain ⟨gk, rfl⟩ : ∃ x, gk = x + 1 := ⟨gk - 1, by omega⟩
              have hlm : m < r.ts.length := by omega
              have hrt2 : Rd wr w.heap.size 4 TA r.ts.length (tsts r.ts) := HT0.out.below HF'.out
              obtain ⟨tb, toff, t, rfl, htb, ht, t0, t1, t2, t3⟩ := hrt2.tst hlm
              have HTK := Lib.hid ht
              clear ht hrt2
              have HCC2 : Hid (Rd ((wr.alloc (.cells #[.int .i64 t.f, .int .i64 t.m, .int .i64 t.op, .int .i64 t.x] 83)).alloc (.cells #[.int .i64 t.f] 3)) (wr.heap.size + 1 + 1) 1 (some ⟨wr.heap.size + 1, 0, none⟩) 1 [.int .i64 t.f]) := Lib.hid (rd_new (w := wr.alloc (.cells #[.int .i64 t.f, .int .i64 t.m, .int .i64 t.op, .int .i64 t.x] 83)) (by simp) 3 1 1 [.int .i64 t.f] rfl)
              have HOW2 := Lib.hid (own_up HO'.out (w' := (wr.alloc (.cells #[.int .i64 t.f, .int .i64 t.m, .int .i64 t.op, .int .i64 t.x] 83)).alloc (.cells #[.int .i64 t.f] 3)) (by go_grown))
              have hob2 : ∀ b, (Value.slice A' ys.length c').ownBlock = some b → w.heap.size + 1 ≤ b := fun b hb => (HO'.out.lt b hb).1
              have HOB2 := Lib.hid hob2
              clear hob2
              go_wp2_with (at_builtin; go_must (refine wpList_append_rd _ rfl _ _ 26 rfl (w.heap.size + 1) 3 i0 _ 1 8 Tryd.underlying26 hi0 hz0 hz1 hz2 rfl (by omega) (.slice A' ys.length c') ys.length (ints ys) rfl HOW2.out _ (some ⟨wr.heap.size + 1, 0, none⟩) 1 1 _ rfl HCC2.out (one_int t.f) (by unfold maxLen; omega) (by omega) (by simp; omega) ?_; intro A6 c6 w6 ho6 hg6 ha6; have hs6 := hg6.size; (try simp at hs6); have O6 := Lib.hid ho6; have L6 := Lib.hid ((show Below w.heap.size w _ from below_via HF'.out (by go_grown)).grown hg6 (by (try simp); omega) (fun b e => by have := HOB2.out b e; omega)); clear ho6 hg6 ha6))
              go_roundg gk
              case measure => omega
              case rel =>
                go_light
                have e1 : (ys ++ [t.f]).length = ys.length + 1 := by simp
                refine ⟨m + 1, A6, c6, ys ++ [t.f], by omega, by go_num, by rw [e1], by rw [e1]; omega, ?_, ?_, L6, by omega⟩
                · show _ = _
                  rw [HY.out, List.take_add_one, HTK.out]; simp
                · have := O6.out
                  rw [ints_add] at this
                  rw [e1]
                  exact Lib.hid this
        · have f2 : decide (r.hi < 4294967295) = false := by simpa using hhi
          have HRU := Lib.hid (rU_no (r := r) (fun h => h.elim hlo hhi))
          clear hlo hhi
          have x53 := HX.out.cell (i := 3) rfl
          have zW : wo.heap.size < (wo.alloc (.cells #[.int .i64 r.v, .int .i64 r.lo, .int .i64 r.hi, .slice TA r.ts.length tc] 35)).heap.size := by (try simp) <;> omega
          go_wp2_with fail
          go_loopg [3, 32] r.ts.length (fun gj v j wr => ∃ (m : Nat) (A' : Option Addr) (c' : Nat) (ys : List Int), gj + m = r.ts.length ∧ j = .int .i64 m ∧ v = .slice A' ys.length c' ∧ ys.length ≤ 5 * k + 1 + m ∧ Hid (ys = zs ++ (r.ts.take m).map Tst.f) ∧ Hid (wr.ownsRow (w.heap.size + 1) 3 1 (.slice A' ys.length c') ys.length (ints ys)) ∧ Hid (Below w.heap.size w wr) ∧ wo.heap.size < wr.heap.size)
          case atStart => exact ⟨0, A', c', zs, by omega, rfl, by simp, by simp <;> omega, Lib.hid (by simp), Lib.hid (own_up HO.out (by go_grown)), Lib.hid (show Below w.heap.size w _ from below_via HF.out (by go_grown)), zW⟩
          case round =>
            obtain ⟨m, A', c', ys, hgm, rfl, rfl, hyl, HY, HO', HF', hsz'⟩ := hrel
            have hbs' := HF'.out.size
            by_cases hj : gk = 0
            · subst hj
              obtain rfl : m = r.ts.length := by omega
              rw [List.take_length] at HY
              have HN : Hid (ys = flds (rs.take (k + 1))) := Lib.hid (by rw [HY.out, HFA.out, HRU.out, HZ.out]; try simp)
              go_wp2
              go_roundg ga
              case measure => omega
              case rel =>
                go_light
                exact ⟨k + 1, A', c', ys, by omega, by go_num, rfl, by omega, HN, HO', HF', by omega⟩
            · obtain ⟨gk, rfl⟩ : ∃ x, gk = x + 1 := ⟨gk - 1, by omega⟩
              have hlm : m < r.ts.length := by omega
              have hrt2 : Rd wr w.heap.size 4 TA r.ts.length (tsts r.ts) := HT0.out.below HF'.out
              obtain ⟨tb, toff, t, rfl, htb, ht, t0, t1, t2, t3⟩ := hrt2.tst hlm
              have HTK := Lib.hid ht
              clear ht hrt2
              have HCC2 : Hid (Rd ((wr.alloc (.cells #[.int .i64 t.f, .int .i64 t.m, .int .i64 t.op, .int .i64 t.x] 83)).alloc (.cells #[.int .i64 t.f] 3)) (wr.heap.size + 1 + 1) 1 (some ⟨wr.heap.size + 1, 0, none⟩) 1 [.int .i64 t.f]) := Lib.hid (rd_new (w := wr.alloc (.cells #[.int .i64 t.f, .int .i64 t.m, .int .i64 t.op, .int .i64 t.x] 83)) (by simp) 3 1 1 [.int .i64 t.f] rfl)
              have HOW2 := Lib.hid (own_up HO'.out (w' := (wr.alloc (.cells #[.int .i64 t.f, .int .i64 t.m, .int .i64 t.op, .int .i64 t.x] 83)).alloc (.cells #[.int .i64 t.f] 3)) (by go_grown))
              have hob2 : ∀ b, (Value.slice A' ys.length c').ownBlock = some b → w.heap.size + 1 ≤ b := fun b hb => (HO'.out.lt b hb).1
              have HOB2 := Lib.hid hob2
              clear hob2
              go_wp2_with (at_builtin; go_must (refine wpList_append_rd _ rfl _ _ 26 rfl (w.heap.size + 1) 3 i0 _ 1 8 Tryd.underlying26 hi0 hz0 hz1 hz2 rfl (by omega) (.slice A' ys.length c') ys.length (ints ys) rfl HOW2.out _ (some ⟨wr.heap.size + 1, 0, none⟩) 1 1 _ rfl HCC2.out (one_int t.f) (by unfold maxLen; omega) (by omega) (by simp; omega) ?_; intro A6 c6 w6 ho6 hg6 ha6; have hs6 := hg6.size; (try simp at hs6); have O6 := Lib.hid ho6; have L6 := Lib.hid ((show Below w.heap.size w _ from below_via HF'.out (by go_grown)).grown hg6 (by (try simp); omega) (fun b e => by have := HOB2.out b e; omega)); clear ho6 hg6 ha6))
              go_roundg gk
              case measure => omega
              case rel =>
                go_light
                have e1 : (ys ++ [t.f]).length = ys.length + 1 := by simp
                refine ⟨m + 1, A6, c6, ys ++ [t.f], by omega, by go_num, by rw [e1], by rw [e1]; omega, ?_, ?_, L6, by omega⟩
                · show _ = _
                  rw [HY.out, List.take_add_one, HTK.out]; simp
                · have := O6.out
                  rw [ints_add] at this
                  rw [e1]
                  exact Lib.hid this
theorem policyUses_c (A : Option Addr) (n c : Nat) (rs : List Rl) (e : Int) (w : World) (hn : n ≤ 9223372036854775807) (hr : RdR w w.heap.size A n rs) (hp : PT w w.heap.size) :
    Calls Tryd.prog 33 #[.agg #[.slice A n c, .int .i64 e]] w (RetOwn 3 1 (usesP ⟨rs, e⟩).length (ints (usesP ⟨rs, e⟩)) w) := by
  unfold usesP
  by_cases h : polOk ⟨rs, e⟩ = true
  · rw [if_pos h]
    exact policyUses_yes A n c rs e w hn hr hp h
  · rw [if_neg h]
    exact policyUses_no A n c rs e w hn hr hp (by simpa using h)
end Go.Proofs.YtljgaepgblakhaaDoor
