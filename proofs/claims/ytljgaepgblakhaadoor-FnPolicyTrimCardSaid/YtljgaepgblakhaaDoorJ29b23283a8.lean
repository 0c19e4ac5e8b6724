/- keepUncovered: rules that no one ahead of them covers; by closures handed to slices.ContainsFunc. Conditions: each contract's own. -/
import Derived.Test.YtljgaepgblakhaaDoorJ5af83f6d7c
import Derived.Test.YtljgaepgblakhaaDoorJff192987f6
namespace Go.Proofs.YtljgaepgblakhaaDoor
set_option linter.unusedSimpArgs false
open Go.RowKit
set_option linter.unusedVariables false
set_option linter.unnecessarySimpa false
set_option maxRecDepth 20000
def idxR (rs : List Rl) (r : Rl) : Int := match rs.findIdx? (fun a => covB a r) with | some k => (k : Int) | none => -1
theorem idxR_any (rs : List Rl) (r : Rl) : decide (0 ≤ idxR rs r) = rs.any (fun a => covB a r) := by
  unfold idxR
  cases h : rs.findIdx? (fun a => covB a r) with
  | none =>
    rw [List.findIdx?_eq_none_iff] at h
    have : rs.any (fun a => covB a r) = false := List.any_eq_false.2 fun a ha => by rw [h a ha]; exact Bool.false_ne_true
    rw [this]; rfl
  | some k =>
    obtain ⟨hk, hp, _⟩ := List.findIdx?_eq_some_iff_getElem.1 h
    have : rs.any (fun a => covB a r) = true := List.any_eq_true.2 ⟨rs[k], List.getElem_mem hk, hp⟩
    rw [this]; simp
theorem idxR_at {rs : List Rl} {r x : Rl} {k : Nat} (hx : rs[k]? = some x) (he : covB x r = true) (hb : (rs.take k).all (fun a => !covB a r) = true) : idxR rs r = (k : Int) := by
  unfold idxR
  rw [(find_at (p := fun a => covB a r) hx he hb).2]
theorem idxR_none {rs : List Rl} {r : Rl} (hb : rs.all (fun a => !covB a r) = true) : idxR rs r = -1 := by
  unfold idxR
  rw [(find_none (p := fun a => covB a r) hb).2]
theorem keep_step {rs : List Rl} {k : Nat} {r : Rl} (h : rs[k]? = some r) : (rs.take (k + 1)).foldl keepS [] = keepS ((rs.take k).foldl keepS []) r := by
  rw [List.take_add_one, h, List.foldl_append]; rfl
theorem keepS_yes {ks : List Rl} {r : Rl} (h : ks.any (fun a => covB a r) = true) : keepS ks r = ks := by unfold keepS; rw [h]; rfl
theorem keepS_no {ks : List Rl} {r : Rl} (h : ks.any (fun a => covB a r) = false) : keepS ks r = ks ++ [r] := by unfold keepS; rw [h]; rfl
theorem sub_add {α : Type} {a b : List α} {k : Nat} {x : α} (h : List.Sublist a (b.take k)) (hx : b[k]? = some x) : List.Sublist (a ++ [x]) (b.take (k + 1)) := by
  rw [List.take_add_one, hx]
  exact h.append (List.Sublist.refl _)
theorem sub_more {α : Type} {a b : List α} {k : Nat} (h : List.Sublist a (b.take k)) : List.Sublist a (b.take (k + 1)) := by
  rw [List.take_add_one]
  exact h.trans (List.sublist_append_left _ _)
theorem ob_app {A A2 : Option Addr} {n c n2 c2 S K : Nat} (ha : (Value.slice A2 n2 c2).ownBlock = (Value.slice A n c).ownBlock ∨ (Value.slice A2 n2 c2).ownBlock = some S) (h : ∀ b, (Value.slice A n c).ownBlock = some b → K ≤ b) (hS : K ≤ S) : ∀ b, (Value.slice A2 n2 c2).ownBlock = some b → K ≤ b := by
  intro b hb
  rcases ha with ha | ha
  · exact h b (by rw [← ha]; exact hb)
  · rw [ha] at hb
    injection hb with hb
    omega
theorem rcells_one {q : Rl × Value} {TA : Option Addr} {n tc : Nat} (h : q.2 = .slice TA n tc) : rcells [q] = [.int .i64 q.1.v, .int .i64 q.1.lo, .int .i64 q.1.hi, .slice TA n tc] := by simp [rcells, qcells, h]
/-- The call returns some of those rules, in a row of its own. -/
def RetKeep (ER ET lo : Nat) (qs : List (Rl × Value)) (w : World) (e : Ending) (w' : World) : Prop :=
  ∃ A' n' c' qs', e = .returned (.slice A' n' c') ∧ List.Sublist qs' qs ∧ rls qs' = keepR (rls qs) ∧ OP w' lo w'.heap.size ER ET A' n' c' qs' ∧ Below w.heap.size w w'
theorem keep1_c (a r : Rl) (TA TB : Option Addr) (tc tb g1 g2 t1 : Nat) (w : World) (ha : Rd w w.heap.size 4 TA a.ts.length (tsts a.ts)) (hr : Rd w w.heap.size 4 TB r.ts.length (tsts r.ts)) (hal : a.ts.length ≤ 9223372036854775807) (hrl : r.ts.length ≤ 9223372036854775807)
    (h1 : Blk w g1 t1 [.func (Fn.func 87) #[] #[]]) (h2 : Blk w g2 35 [.int .i64 r.v, .int .i64 r.lo, .int .i64 r.hi, .slice TB r.ts.length tb]) :
    Calls Tryd.prog 120 #[.agg #[.int .i64 a.v, .int .i64 a.lo, .int .i64 a.hi, .slice TA a.ts.length tc], .pointer (some ⟨g1, 0, none⟩), .pointer (some ⟨g2, 0, none⟩)] w (RetB (.bool (covB a r)) w) := by
  have HA := Lib.hid ha
  have HR := Lib.hid hr
  have HC := Lib.hid (fun W h k => covers_c a r TA TB tc tb W h k hal hrl)
  have j0 := h1.cell (i := 0) rfl
  have k0 := h2.cell (i := 0) rfl
  have k1 := h2.cell (i := 1) rfl
  have k2 := h2.cell (i := 2) rfl
  have k3 := h2.cell (i := 3) rfl
  have z1 := h1.lt
  have z2 := h2.lt
  clear ha hr h1 h2
  go_enter Tryd.func120, Tryd.ntmps120
  (go_wp2_with fail); (go_at_call 87; refine (HC.out _ (HA.out.upB (by go_grown) (by go_size)) (HR.out.upB (by go_grown) (by go_size))).mono ?_; rintro e w1 ⟨rfl, b1⟩; obtain ⟨gc1, gf1⟩ := below_get b1; (try simp only [heap_drew, World.size_alloc, World.size_setCell] at gc1 gf1); have s1 := below_via (w := w) (by go_grown) b1; have H1 := s1; have hs1 := b1.size; (try simp at hs1); clear b1)
  go_wp2
  go_returns
  exact ⟨rfl, by go_grown⟩
set_option maxHeartbeats 1600000 in
theorem indexCov_c (A : Option Addr) (n c : Nat) (rs : List Rl) (r : Rl) (TB : Option Addr) (tb g1 g2 t1 : Nat) (w : World) (hn : n ≤ 9223372036854775807) (hr : RdR w w.heap.size A n rs) (hq : Rd w w.heap.size 4 TB r.ts.length (tsts r.ts)) (hrl : r.ts.length ≤ 9223372036854775807)
    (h1 : Blk w g1 t1 [.func (Fn.func 87) #[] #[]]) (h2 : Blk w g2 35 [.int .i64 r.v, .int .i64 r.lo, .int .i64 r.hi, .slice TB r.ts.length tb]) :
    Calls Tryd.prog 79 #[.slice A n c, .func (Fn.func 120) #[] #[.pointer (some ⟨g1, 0, none⟩), .pointer (some ⟨g2, 0, none⟩)]] w (RetB (.int .i64 (idxR rs r)) w) := by
  have hl := hr.1
  have HR := Lib.hid hr
  have HQ := Lib.hid hq
  have HG1 := Lib.hid h1
  have HG2 := Lib.hid h2
  clear hr hq h1 h2
  go_enter Tryd.func79, Tryd.ntmps79
  go_wp2
  go_loopw [8] (fun i wr => ∃ k : Nat, k ≤ n ∧ i = .int .i64 k ∧ Hid ((rs.take k).all (fun x => !covB x r) = true) ∧ Hid (Below w.heap.size w wr)) (fun i _ => n - (intOf i).toNat)
  case atStart => exact ⟨0, by omega, by rfl, Lib.hid (by simp), by show Below _ _ _; go_grown⟩
  case round =>
    obtain ⟨k, hk, rfl, HAL, HF⟩ := hrel
    have hbs := HF.out.size
    by_cases hlt : k < n
    · obtain ⟨b, off, x, rfl, hb, hp, TA, tc, c0, c1, c2, c3, hrt, hxl⟩ := (HR.out.below HF.out).rl hlt
      have HPP := Lib.hid hp
      have HT := Lib.hid (hrt.more hbs)
      have HC := Lib.hid (fun W h k j1 j2 => keep1_c x r TA TB tc tb g1 g2 t1 W h k hxl hrl j1 j2)
      have J1 := Lib.hid (HG1.out.up HF.out)
      have J2 := Lib.hid (HG2.out.up HF.out)
      clear hp hrt
      cases hcv : covB x r with
      | true =>
        have HE := Lib.hid (idxR_at HPP.out hcv HAL.out)
        rw [hcv] at HC
        clear hcv
        go_wp2_with (go_at_call 120; refine (HC.out _ (HT.out.upB (by go_grown) (by go_size)) (HQ.out.below (below_via HF.out (by go_grown)) |>.more (by (try simp); omega)) (by first | exact J1.out | exact J1.out.alloc _) (by first | exact J2.out | exact J2.out.alloc _)).mono ?_; rintro e w1 ⟨rfl, b1⟩; have hb1 := below_on HF.out (by go_grown) b1; have hs1 := b1.size; (try simp at hs1); clear b1)
        go_returns
        rw [HE.out]
        exact ⟨rfl, hb1⟩
      | false =>
        have HN := Lib.hid hcv
        rw [hcv] at HC
        clear hcv
        go_wp2_with (go_at_call 120; refine (HC.out _ (HT.out.upB (by go_grown) (by go_size)) (HQ.out.below (below_via HF.out (by go_grown)) |>.more (by (try simp); omega)) (by first | exact J1.out | exact J1.out.alloc _) (by first | exact J2.out | exact J2.out.alloc _)).mono ?_; rintro e w1 ⟨rfl, b1⟩; have hb1 := below_on HF.out (by go_grown) b1; have hs1 := b1.size; (try simp at hs1); clear b1)
        go_roundw
        case measure => simp [intOf]; omega
        case rel =>
          go_light
          exact ⟨k + 1, by omega, by go_num, by show _ = true; rw [take_all _ _ _ _ HPP.out, HAL.out, HN.out]; rfl, hb1⟩
    · have hkn : k = n := by omega
      have e1 : rs.take k = rs := List.take_of_length_le (by omega)
      rw [e1] at HAL
      have HE := Lib.hid (idxR_none HAL.out)
      clear e1
      go_wp2_with fail
      go_returns
      rw [HE.out]
      exact ⟨rfl, HF.out⟩
theorem containsCov_c (A : Option Addr) (n c : Nat) (rs : List Rl) (r : Rl) (TB : Option Addr) (tb g1 g2 t1 : Nat) (w : World) (hn : n ≤ 9223372036854775807) (hr : RdR w w.heap.size A n rs) (hq : Rd w w.heap.size 4 TB r.ts.length (tsts r.ts)) (hrl : r.ts.length ≤ 9223372036854775807)
    (h1 : Blk w g1 t1 [.func (Fn.func 87) #[] #[]]) (h2 : Blk w g2 35 [.int .i64 r.v, .int .i64 r.lo, .int .i64 r.hi, .slice TB r.ts.length tb]) :
    Calls Tryd.prog 119 #[.slice A n c, .func (Fn.func 120) #[] #[.pointer (some ⟨g1, 0, none⟩), .pointer (some ⟨g2, 0, none⟩)]] w (RetB (.bool (rs.any (fun a => covB a r))) w) := by
  have HR := Lib.hid hr
  have HQ := Lib.hid hq
  have HG1 := Lib.hid h1
  have HG2 := Lib.hid h2
  have HC := Lib.hid (fun W h k j1 j2 => indexCov_c A n c rs r TB tb g1 g2 t1 W hn h k hrl j1 j2)
  have HM := Lib.hid (idxR_any rs r)
  clear hr hq h1 h2
  generalize idxR rs r = v at *
  go_enter Tryd.func119, Tryd.ntmps119
  (go_wp2_with fail); (go_at_call 79; refine (HC.out _ HR.out HQ.out HG1.out HG2.out).mono ?_; rintro e w1 ⟨rfl, b1⟩; obtain ⟨gc1, gf1⟩ := below_get b1; (try simp only [heap_drew, World.size_alloc, World.size_setCell] at gc1 gf1); have s1 := below_via (w := w) (by go_grown) b1; have H1 := s1; have hs1 := b1.size; (try simp at hs1); clear b1)
  go_wp2
  all_goals go_returns
  all_goals (refine ⟨retv ?_, by go_grown⟩)
  all_goals rw [← HM.out]
  all_goals go_light
  all_goals simp_all
set_option maxHeartbeats 3200000 in
set_option maxRecDepth 100000 in
theorem keepU_c (A : Option Addr) (n c : Nat) (qs : List (Rl × Value)) (lo : Nat) (w : World) (h : OP w lo w.heap.size 35 83 A n c qs) (hlo : lo ≤ w.heap.size) (hn : n ≤ 1000) :
    Calls Tryd.prog 86 #[.slice A n c, .func (Fn.func 87) #[] #[]] w (RetKeep 35 83 lo qs w) := by
  obtain ⟨i0, hi0, hz0, hz1, hz2⟩ := info_parts info_rule
  have hlen := h.len
  have HQ := Lib.hid h
  have HB := Lib.hid (Blk.new w 94 [.func (Fn.func 87) #[] #[]])
  clear h
  go_enter Tryd.func86, Tryd.ntmps86
  go_wp2
  go_loopg [5, 10] n (fun gk v i wr => ∃ (k : Nat) (A' : Option Addr) (n' c' : Nat) (qs' : List (Rl × Value)), gk + k = n ∧ n' ≤ k ∧ i = .int .i64 k ∧ v = .slice A' n' c' ∧ Hid (List.Sublist qs' (qs.take k)) ∧ Hid (rls qs' = ((rls qs).take k).foldl keepS []) ∧
    Hid (OP wr lo wr.heap.size 35 83 A' n' c' qs') ∧ Hid (∀ b, (Value.slice A' n' c').ownBlock = some b → w.heap.size + 1 ≤ b) ∧ Hid (Blk wr w.heap.size 94 [.func (Fn.func 87) #[] #[]]) ∧ Hid (Below w.heap.size w wr))
  case atStart => exact ⟨0, none, 0, 0, [], by omega, by omega, by rfl, rfl, Lib.hid (by simp), Lib.hid (by simp [rls]), Lib.hid (OP.nil_ _ _ _ _ _), Lib.hid (fun b hb => by cases hb), HB, by show Below _ _ _; go_grown⟩
  case round =>
    obtain ⟨k, A', n', c', qs', hgk, hnk, rfl, rfl, HS, HE, HO, HOB, HB, HF⟩ := hrel
    have hbs := HF.out.size
    have hbl := HB.out.lt
    by_cases hk : gk = 0
    · subst hk
      obtain rfl : k = n := by omega
      rw [List.take_of_length_le (by omega)] at HS
      rw [List.take_of_length_le (by rw [rls_len]; omega)] at HE
      go_wp2
      go_returns
      exact ⟨A', n', c', qs', rfl, HS.out, HE.out, HO.out, HF.out⟩
    · obtain ⟨gk, rfl⟩ : ∃ m, gk = m + 1 := ⟨gk - 1, by omega⟩
      have hlt : k < n := by omega
      obtain ⟨g, q, TA, tc, rfl, hg1, hg2, hg3, hq, hqv, c0, c1, c2, c3, _, hql⟩ := (HQ.out.up HF.out).at_ hlt
      have HQK := Lib.hid hq
      have HQV := Lib.hid hqv
      have HT := Lib.hid ((HQ.out.up HF.out).tst q (List.mem_of_getElem? hq))
      have HTR : Hid (Rd wr wr.heap.size 4 TA q.1.ts.length (tsts q.1.ts)) := Lib.hid (Rd.of_own (c := tc) (by have := HT.out.own; rw [hqv] at this; exact this))
      have HX := Lib.hid (Blk.new wr 35 [.int .i64 q.1.v, .int .i64 q.1.lo, .int .i64 q.1.hi, .slice TA q.1.ts.length tc])
      have HC := Lib.hid (fun W h k j1 j2 => containsCov_c A' n' c' (rls qs') q.1 TA tc w.heap.size wr.heap.size 94 W (by omega) h k hql j1 j2)
      clear hq hqv
      cases hany : (rls qs').any (fun a => covB a q.1) with
      | true =>
        have HN : Hid (rls qs' = ((rls qs).take (k + 1)).foldl keepS []) := Lib.hid (by rw [keep_step (rls_at HQK.out), ← HE.out, keepS_yes hany])
        rw [hany] at HC
        clear hany
        (go_wp2_with fail); (go_at_call 119; refine (HC.out _ ((HO.out.up (by go_grown)).rd) (HTR.out.upB (by go_grown) (by go_size)) (HB.out.alloc _) HX.out).mono ?_; rintro e w1 ⟨rfl, b1⟩; have L1 := Lib.hid (below_on HF.out (by go_grown) b1); have O1 := Lib.hid ((HO.out.up (below_via (by go_grown) b1)).wide (Nat.le_refl _) (below_via (w := wr) (by go_grown) b1).size); have B1 := Lib.hid ((HB.out.alloc _).up b1); clear b1)
        go_wp2
        go_roundg gk
        case measure => omega
        case rel =>
          go_light
          exact ⟨k + 1, A', n', c', qs', by omega, by omega, by go_num, rfl, Lib.hid (sub_more HS.out), HN, O1, HOB, B1, L1⟩
      | false =>
        have HN : Hid (rls (qs' ++ [q]) = ((rls qs).take (k + 1)).foldl keepS []) := Lib.hid (by rw [keep_step (rls_at HQK.out), ← HE.out, keepS_no hany, rls_app]; rfl)
        rw [hany] at HC
        clear hany
        (go_wp2_with fail); (go_at_call 119; refine (HC.out _ ((HO.out.up (by go_grown)).rd) (HTR.out.upB (by go_grown) (by go_size)) (HB.out.alloc _) HX.out).mono ?_; rintro e w1 ⟨rfl, b1⟩; have L1 := Lib.hid (below_on HF.out (by go_grown) b1); have O1 := Lib.hid ((HO.out.up (below_via (by go_grown) b1)).wide (Nat.le_refl _) (below_via (w := wr) (by go_grown) b1).size); have T1 := Lib.hid ((HT.out.up (below_via (by go_grown) b1))); have B1 := Lib.hid ((HB.out.alloc _).up b1); have X1 := Lib.hid (HX.out.up b1); have hs1 := b1.size; (try simp at hs1); clear b1)
        have x0 := X1.out.cell (i := 0) rfl
        have x1 := X1.out.cell (i := 1) rfl
        have x2 := X1.out.cell (i := 2) rfl
        have x3 := X1.out.cell (i := 3) rfl
        have HCC : Hid (Rd (w1.alloc (.cells #[.int .i64 q.1.v, .int .i64 q.1.lo, .int .i64 q.1.hi, .slice TA q.1.ts.length tc] 35)) (w1.heap.size + 1) 4 (some ⟨w1.heap.size, 0, none⟩) 1 (rcells [q])) := Lib.hid (by rw [rcells_one HQV.out]; exact rd_new (w := w1) rfl 35 4 1 [.int .i64 q.1.v, .int .i64 q.1.lo, .int .i64 q.1.hi, .slice TA q.1.ts.length tc] rfl)
        have HTW := Lib.hid (T1.out.up (w' := w1.alloc (.cells #[.int .i64 q.1.v, .int .i64 q.1.lo, .int .i64 q.1.hi, .slice TA q.1.ts.length tc] 35)) (by go_grown))
        have HOW := Lib.hid (O1.out.up (w' := w1.alloc (.cells #[.int .i64 q.1.v, .int .i64 q.1.lo, .int .i64 q.1.hi, .slice TA q.1.ts.length tc] 35)) (by go_grown))
        go_wp2_with (at_builtin; go_must (refine wpList_append_rd _ rfl _ _ 23 rfl lo 35 i0 _ 4 48 Tryd.underlying23 hi0 hz0 hz1 hz2 rfl (by omega) (.slice A' n' c') n' (rcells qs') rfl HOW.out.own _ (some ⟨w1.heap.size, 0, none⟩) 1 1 _ rfl HCC.out (one_rcells (fun x hx => by rw [List.mem_singleton.1 hx]; exact HTW.out)) (by unfold maxLen; omega) (by omega) (by simp; omega) ?_; intro A2 c2 w2 ho2 hg2 ha2; have hs2 := hg2.size; (try simp at hs2); have O2 := Lib.hid (HOW.out.app (by decide) (hi' := w2.heap.size) (fun x hx => by rw [List.mem_singleton.1 hx]; exact HTW.out.wide (Nat.le_refl _) (by (try simp); omega)) (by omega) ho2 hg2 (Nat.le_refl _)); have B2 := Lib.hid ((B1.out.alloc _).gn hg2 (fun e => by have := HOB.out _ e; omega)); have OB2 := Lib.hid (ob_app ha2 HOB.out (by (try simp); omega)); have L2 := Lib.hid ((show Below w.heap.size w _ from below_via L1.out (by go_grown)).grown hg2 (by (try simp); omega) (fun b e => by have := HOB.out b e; omega)); clear ho2 hg2 ha2))
        go_roundg gk
        case measure => omega
        case rel =>
          go_light
          exact ⟨k + 1, A2, n' + 1, c2, qs' ++ [q], by omega, by omega, by go_num, rfl, Lib.hid (sub_add HS.out HQK.out), HN, O2, OB2, B2, L2⟩
end Go.Proofs.YtljgaepgblakhaaDoor
