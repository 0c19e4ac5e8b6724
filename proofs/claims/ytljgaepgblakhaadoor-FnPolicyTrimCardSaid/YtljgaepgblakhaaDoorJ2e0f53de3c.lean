/- The specification's PolicyTrim. Conditions: each contract's own. -/
import Derived.Test.YtljgaepgblakhaaDoorJ60d8b4896d
namespace Go.Proofs.YtljgaepgblakhaaDoor
set_option linter.unusedSimpArgs false
open Go.RowKit
set_option linter.unusedVariables false
set_option linter.unnecessarySimpa false
set_option maxRecDepth 20000
theorem Keep.upB {w w' w2 : World} {ok : Nat → Prop} (h : Keep w w' ok) (hb : Below w'.heap.size w' w2) : Keep w w2 ok :=
  h.trans (Keep.of_below (ok := fun t => t < w'.heap.size) hb (fun t ht _ => ht)) (fun t _ ht => Nat.lt_of_lt_of_le ht h.size)
theorem any_step {rs : List Rl} {r x : Rl} {m : Nat} (h : rs[m]? = some x) : (rs.take (m + 1)).any (fun a => covB a r) = ((rs.take m).any (fun a => covB a r) || covB x r) := by
  rw [List.take_add_one, h]; simp
theorem specPolicyTrim_no (A : Option Addr) (n c : Nat) (rs : List Rl) (e : Int) (w : World) (hn : n ≤ 9223372036854775807) (hr : RdR w w.heap.size A n rs) (h1 : polOk ⟨rs, e⟩ = false) :
    Calls Tryd.prog 38 #[.agg #[.slice A n c, .int .i64 e]] w (RetPol 35 83 ⟨[], 0⟩ w) := by
  have HR := Lib.hid hr
  have hO1 := fun W h => specPolicyOk_c A n c rs e W h hn
  rw [h1] at hO1
  have HO1 := Lib.hid hO1
  clear hr hO1 h1
  go_enter Tryd.func38, Tryd.ntmps38
  (go_wp2_with fail); (go_at_call 18; refine (HO1.out _ (HR.out.upB (by go_grown) (by go_size))).mono ?_; rintro e w1 ⟨rfl, b1⟩; obtain ⟨gc1, gf1⟩ := below_get b1; (try simp only [heap_drew, World.size_alloc, World.size_setCell] at gc1 gf1); have s1 := below_via (w := w) (by go_grown) b1; have H1 := s1; have hs1 := b1.size; (try simp at hs1); have z1_0 : w.heap.size < w1.heap.size := (by omega); have z1_1 : w.heap.size + 1 < w1.heap.size := (by omega); clear b1)
  go_wp2
  refine bodyPost_ret (v := .agg #[.slice none 0 0, .int .i64 0]) (by simp [results, Tryd.results38, go_sem, gc1, z1_1]) rfl ?_
  go_light
  exact ⟨none, 0, [], rfl, rfl, OP.nil_ _ _ _ _ _, Apart.nil_, by go_grown⟩
set_option maxHeartbeats 8000000 in
set_option maxRecDepth 100000 in
theorem specPolicyTrim_yes (A : Option Addr) (n c : Nat) (rs : List Rl) (e : Int) (w : World) (hn : n ≤ 9223372036854775807) (hr : RdR w w.heap.size A n rs) (h1 : polOk ⟨rs, e⟩ = true) :
    Calls Tryd.prog 38 #[.agg #[.slice A n c, .int .i64 e]] w (RetPol 35 83 ⟨trimQ rs e, e⟩ w) := by
  obtain ⟨i0, hi0, hz0, hz1, hz2⟩ := info_parts info_rule
  have hl1 := hr.1
  subst hl1
  have HR := Lib.hid hr
  have hA8 := (polOk_rules h1).1
  have hO1 := fun W h => specPolicyOk_c A rs.length c rs e W h hn
  rw [h1] at hO1
  have HO1 := Lib.hid hO1
  have HC1 := Lib.hid (fun W h => l2Copy_c A rs.length c rs e W h (by omega) (fun r hr => by have := polOk_ts h1 r hr; omega))
  have hB2 := blk_two w 25 25 [.slice A rs.length c, .int .i64 e] [.slice none 0 0, .int .i64 0]
  have HBa := Lib.hid hB2.1
  have HBb := Lib.hid hB2.2
  clear hr hO1 h1 hB2
  go_enter Tryd.func38, Tryd.ntmps38
  (go_wp2_with fail); (go_at_call 18; refine (HO1.out _ (HR.out.upB (by go_grown) (by go_size))).mono ?_; rintro e w1 ⟨rfl, b1⟩; have PB1 := Lib.hid (HBa.out.up b1); have QB1 := Lib.hid (HBb.out.up b1); obtain ⟨gc1, gf1⟩ := below_get b1; (try simp only [heap_drew, World.size_alloc, World.size_setCell] at gc1 gf1); have s1 := below_via (w := w) (by go_grown) b1; have H1 := s1; have hs1 := b1.size; (try simp at hs1); have z1_0 : w.heap.size < w1.heap.size := (by omega); have z1_1 : w.heap.size + 1 < w1.heap.size := (by omega); clear b1)
  have HX1 := Lib.hid (Blk.new w1 25 [.slice none 0 0, .int .i64 e])
  (go_wp2_with fail); (go_at_call 77; refine (HC1.out _ ((HR.out.below (show Below w.heap.size w _ from below_via H1 (by go_grown))).more (by (try simp); omega))).mono ?_; rintro e w2 ⟨A2, c2, qs2, rfl, e2, o2, p2, b2⟩; simp only [World.size_alloc] at o2; have O2 := Lib.hid o2; have E2 := Lib.hid e2; have P2 := Lib.hid p2; have X2 := Lib.hid (HX1.out.up b2); obtain ⟨gc2, gf2⟩ := below_get b2; (try simp only [heap_drew, World.size_alloc, World.size_setCell] at gc2 gf2); have s2 := below_via (w := w1) (by go_grown) b2; have H2 := below_via H1 s2; have hs2 := b2.size; (try simp at hs2); have z2_0 : w.heap.size < w2.heap.size := (by omega); have z2_1 : w.heap.size + 1 < w2.heap.size := (by omega); have z2_2 : w1.heap.size < w2.heap.size := (by omega); clear b2; have QB2 := Lib.hid (QB1.out.up s2); clear o2 e2 p2)
  have HL2 := Lib.hid O2.out.len
  have H2' := Lib.hid H2
  clear gc1 gf1 gc2 gf2 s1 s2 H1 H2 HBa HBb PB1 QB1 HX1
  -- behind the copy's box
  obtain ⟨w3, hw3⟩ : ∃ W, W = w2.alloc (.cells #[.slice A2 rs.length c2, .int .i64 e] 25) := ⟨_, rfl⟩
  have Y3 : Hid (Blk w3 w2.heap.size 25 [.slice A2 rs.length c2, .int .i64 e]) := Lib.hid (hw3 ▸ Blk.new w2 25 [.slice A2 rs.length c2, .int .i64 e])
  have X3 : Hid (Blk w3 w1.heap.size 25 [.slice none 0 0, .int .i64 e]) := Lib.hid (hw3 ▸ X2.out.alloc _)
  have R3 : Hid (Blk w3 (w.heap.size + 1) 25 [.slice none 0 0, .int .i64 0]) := Lib.hid (hw3 ▸ QB2.out.alloc _)
  have O3 : Hid (OP w3 (w1.heap.size + 1) w2.heap.size 35 83 A2 rs.length c2 qs2) := Lib.hid (hw3 ▸ O2.out.up (Below.alloc (Below.refl _ _) (Nat.le_refl _) _))
  have B3 : Hid (Below w.heap.size w w3) := Lib.hid (hw3 ▸ Below.alloc H2'.out (by omega) _)
  have hs3 : w2.heap.size + 1 ≤ w3.heap.size := by rw [hw3]; simp
  have hs3' : w3.heap.size ≤ w2.heap.size + 1 := by rw [hw3]; simp
  go_wp2_with fail
  rw [← hw3]
  clear hw3 X2 QB2 O2 H2'
  go_loopg [5] rs.length (fun gk i wr => ∃ (k : Nat) (A' : Option Addr) (n' c' : Nat) (qs' : List (Rl × Value)), gk + k = rs.length ∧ n' ≤ k ∧ i = .int .i64 k ∧ Hid (List.Sublist qs' (qs2.take k)) ∧ Hid (rls qs' = ((rls qs2).take k).foldl keepS []) ∧
    Hid (OP wr (w1.heap.size + 1) wr.heap.size 35 83 A' n' c' qs') ∧ Hid (∀ b, (Value.slice A' n' c').ownBlock = some b → w3.heap.size ≤ b) ∧ Hid (Blk wr w1.heap.size 25 [.slice A' n' c', .int .i64 e]) ∧ Hid (Keep w3 wr (fun t => t ≠ w1.heap.size)))
  case atStart => exact ⟨0, none, 0, 0, [], by omega, by omega, rfl, Lib.hid (by simp), Lib.hid (by simp [rls]), Lib.hid (OP.nil_ _ _ _ _ _), Lib.hid (fun b hb => by cases hb), X3, Lib.hid (Keep.refl _ _)⟩
  case round =>
    obtain ⟨k, A', n', c', qs', hgk, hnk, rfl, HS, HE, HO, HOB, HX, HK⟩ := hrel
    have hks := HK.out.size
    have Y := Lib.hid (HK.out.blk Y3.out (by omega))
    have R := Lib.hid (HK.out.blk R3.out (by omega))
    have OQ := Lib.hid (O3.out.keep HK.out (fun t h1 h2 => by omega))
    have HB := Lib.hid (B3.out.trans (HK.out.below (B := w.heap.size) (by omega) (fun t ht => by omega)))
    have x0 := HX.out.cell (i := 0) rfl
    have x1 := HX.out.cell (i := 1) rfl
    have xf := HX.out.free
    have y0 := Y.out.cell (i := 0) rfl
    by_cases hk : gk = 0
    · subst hk
      obtain rfl : k = rs.length := by omega
      rw [List.take_of_length_le (by have := HL2.out; omega)] at HS
      rw [List.take_of_length_le (by rw [rls_len]; have := HL2.out; omega)] at HE
      have KE : Hid (rls qs' = keepR rs) := Lib.hid (by rw [HE.out, E2.out]; rfl)
      have HL3 := Lib.hid HO.out.len
      have hnc := HO.out.ncap
      have hcap := HO.out.cap
      unfold maxLen at hcap
      obtain ⟨wo, rfl⟩ : ∃ x : World, x = wr := ⟨_, rfl⟩
      clear HE OQ
      go_wp2_with fail
      clear Y y0
      go_loopg [8] n' (fun gj v wr => v = .int .i64 gj ∧ gj ≤ n' ∧ Hid (cutN (rls qs') e n' = cutN (rls qs') e gj) ∧ Hid (Below wo.heap.size wo wr))
      case atStart => exact ⟨rfl, Nat.le_refl _, Lib.hid rfl, Lib.hid (Below.refl _ _)⟩
      case round =>
        obtain ⟨rfl, hgn, HCU, HF⟩ := hrel
        have hbs := HF.out.size
        clear x0 x1 xf
        have x0 := (HX.out.up HF.out).cell (i := 0) rfl
        have x1 := (HX.out.up HF.out).cell (i := 1) rfl
        by_cases hj : gk = 0
        · subst hj
          have HN : Hid (cutN (rls qs') e n' = 0) := Lib.hid (by rw [HCU.out]; rfl)
          have hg0 : decide ((0 : Int) < ((0 : Nat) : Int)) = false := by simp
          have HTR := Lib.hid (trimmed KE.out HL3.out HN.out (by omega))
          go_wp2
          go_quiet (fail)
          obtain ⟨wd, hwd⟩ : ∃ W, W = wr.drewN nq := ⟨_, rfl⟩
          have FD : Hid (Below wo.heap.size wo wd) := Lib.hid (hwd ▸ below_drewN HF.out nq)
          rw [← hwd]
          clear hwd HF x0 x1
          have hbd := FD.out.size
          have XD := Lib.hid (HX.out.up FD.out)
          have x0 := XD.out.cell (i := 0) rfl
          have x1 := XD.out.cell (i := 1) rfl
          have xf := XD.out.free
          have RD := Lib.hid (R.out.up FD.out)
          have r0 := RD.out.cell (i := 0) rfl
          have r1 := RD.out.cell (i := 1) rfl
          have rf := RD.out.free
          have hne1 : w.heap.size + 1 ≠ w1.heap.size := by omega
          have hne2 : w1.heap.size ≠ w.heap.size + 1 := by omega
          have HOT := Lib.hid ((HO.out.up FD.out).take (m := 0) (by omega))
          have BW := Lib.hid (HB.out.trans (FD.out.mono (by omega)))
          go_wp2
          refine bodyPost_ret (v := .agg #[.slice A' 0 c', .int .i64 e]) (by simp [results, Tryd.results38, go_sem, r0, r1, rf, x0, x1, xf, hne1, hne2]) rfl ?_
          go_light
          refine ⟨A', c', qs'.take (0), by rw [HTR.out.2], HTR.out.1, ?_, Apart.sub (Apart.sub P2.out HS.out) (List.take_sublist _ _), by have := BW.out; go_grown⟩
          show OP _ _ _ _ _ _ (trimQ rs e).length _ _
          rw [HTR.out.2]
          refine OP.wide (lo := w1.heap.size + 1) (hi := wo.heap.size) ?_ (by omega) (by (try simp) <;> omega)
          repeat (first | exact HOT.out | refine OP.set_ ?_ (.inl (by omega)) _ | refine OP.set_ ?_ (.inr (by omega)) _ | refine OP.up ?_ (Below.alloc (Below.refl _ _) (Nat.le_refl _) _))
        · obtain ⟨gk, rfl⟩ : ∃ m, gk = m + 1 := ⟨gk - 1, by omega⟩
          obtain ⟨g, q, TA, tc, rfl, hg1, hg2, hg3, hq, hqv, c0, _⟩ := (HO.out.up HF.out).at_ (show gk < n' by omega)
          have HQ := Lib.hid (rls_at hq)
          have f1 : (0 : Int) ≤ ((gk + 1 : Nat) : Int) - 1 := by omega
          have f2 : ((gk + 1 : Nat) : Int) - 1 < ((gk + 1 : Nat) : Int) := by omega
          clear hq hqv
          by_cases hv : q.1.v = e
          · have HN : Hid (cutN (rls qs') e n' = cutN (rls qs') e gk) := Lib.hid (by rw [HCU.out, cut_on HQ.out hv])
            rw [hv] at c0
            clear hv
            have hg0 : decide ((0 : Int) < ((gk + 1 : Nat) : Int)) = true := by simp
            go_wp2
            go_quiet (fail)
            go_wp2
            go_roundg gk
            case measure => omega
            case rel =>
              go_light
              exact ⟨by go_num, by omega, HN, Lib.hid (below_drewN HF.out nq)⟩
          · have HN : Hid (cutN (rls qs') e n' = gk + 1) := Lib.hid (by rw [HCU.out, cut_stop HQ.out hv])
            have hv' : ((q.1.v : Int) == e) = false := by simpa using hv
            clear hv
            have hg0 : decide ((0 : Int) < ((gk + 1 : Nat) : Int)) = true := by simp
            have HTR := Lib.hid (trimmed KE.out HL3.out HN.out (by omega))
            go_wp2
            go_quiet (fail)
            obtain ⟨wd, hwd⟩ : ∃ W, W = wr.drewN nq := ⟨_, rfl⟩
            have FD : Hid (Below wo.heap.size wo wd) := Lib.hid (hwd ▸ below_drewN HF.out nq)
            rw [← hwd]
            clear hwd HF x0 x1 c0
            have hbd := FD.out.size
            have XD := Lib.hid (HX.out.up FD.out)
            have x0 := XD.out.cell (i := 0) rfl
            have x1 := XD.out.cell (i := 1) rfl
            have xf := XD.out.free
            have RD := Lib.hid (R.out.up FD.out)
            have r0 := RD.out.cell (i := 0) rfl
            have r1 := RD.out.cell (i := 1) rfl
            have rf := RD.out.free
            have hne1 : w.heap.size + 1 ≠ w1.heap.size := by omega
            have hne2 : w1.heap.size ≠ w.heap.size + 1 := by omega
            have HOT := Lib.hid ((HO.out.up FD.out).take (m := (gk + 1)) (by omega))
            have BW := Lib.hid (HB.out.trans (FD.out.mono (by omega)))
            go_wp2
            refine bodyPost_ret (v := .agg #[.slice (some ⟨g, 0, none⟩) (gk + 1) c', .int .i64 e]) (by simp [results, Tryd.results38, go_sem, r0, r1, rf, x0, x1, xf, hne1, hne2]) rfl ?_
            go_light
            refine ⟨(some ⟨g, 0, none⟩), c', qs'.take ((gk + 1)), by rw [HTR.out.2], HTR.out.1, ?_, Apart.sub (Apart.sub P2.out HS.out) (List.take_sublist _ _), by have := BW.out; go_grown⟩
            show OP _ _ _ _ _ _ (trimQ rs e).length _ _
            rw [HTR.out.2]
            refine OP.wide (lo := w1.heap.size + 1) (hi := wo.heap.size) ?_ (by omega) (by (try simp) <;> omega)
            repeat (first | exact HOT.out | refine OP.set_ ?_ (.inl (by omega)) _ | refine OP.set_ ?_ (.inr (by omega)) _ | refine OP.up ?_ (Below.alloc (Below.refl _ _) (Nat.le_refl _) _))
    · obtain ⟨gk, rfl⟩ : ∃ m, gk = m + 1 := ⟨gk - 1, by omega⟩
      have hlt : k < rs.length := by omega
      obtain ⟨g, q, TA, tc, rfl, hg1, hg2, hg3, hq, hqv, c0, c1, c2', c3, _, hql⟩ := OQ.out.at_ hlt
      have HQK := Lib.hid hq
      have HQV := Lib.hid hqv
      have HT := Lib.hid (OQ.out.tst q (List.mem_of_getElem? hq))
      have HTR : Hid (Rd wr wr.heap.size 4 TA q.1.ts.length (tsts q.1.ts)) := Lib.hid (Rd.of_own (c := tc) (by have := HT.out.own; rw [hqv] at this; exact this))
      have HCE := Lib.hid (And.intro c0 (And.intro c1 (And.intro c2' c3)))
      clear hq hqv c0 c1 c2' c3
      obtain ⟨ga, rfl⟩ : ∃ x : Nat, x = gk := ⟨_, rfl⟩
      obtain ⟨wo, rfl⟩ : ∃ x : World, x = wr := ⟨_, rfl⟩
      have hnc := HO.out.ncap
      have HL3 := Lib.hid HO.out.len
      go_wp2
      go_loopg [6, 7] n' (fun gj f j wr => ∃ m : Nat, gj + m = n' ∧ j = .int .i64 m ∧ f = .bool (((rls qs').take m).any (fun a => covB a q.1)) ∧ Hid (Below wo.heap.size wo wr))
      case atStart => exact ⟨0, by omega, rfl, by simp, Lib.hid (Below.refl _ _)⟩
      case round =>
        obtain ⟨m, hgm, rfl, rfl, HF⟩ := hrel
        have hbs := HF.out.size
        clear x0 x1 xf y0
        have XF := Lib.hid (HX.out.up HF.out)
        have YF := Lib.hid (Y.out.up HF.out)
        have x0 := XF.out.cell (i := 0) rfl
        have xf := XF.out.free
        have y0 := YF.out.cell (i := 0) rfl
        obtain ⟨e0, e1, e2, e3⟩ := HCE.out
        have c0 := (HF.out.cell (p := ⟨g, k * 4, none⟩) hg3).trans e0
        have c1 := (HF.out.cell (p := ⟨g, k * 4 + 1, none⟩) hg3).trans e1
        have c2' := (HF.out.cell (p := ⟨g, k * 4 + 2, none⟩) hg3).trans e2
        have c3 := (HF.out.cell (p := ⟨g, k * 4 + 3, none⟩) hg3).trans e3
        clear e0 e1 e2 e3
        have gw : g < wr.heap.size := by omega
        by_cases hj : gk = 0
        · subst hj
          obtain rfl : m = n' := by omega
          rw [show (rls qs').take m = rls qs' from List.take_of_length_le (by rw [rls_len]; have := HL3.out; omega)]
          cases hany : (rls qs').any (fun a => covB a q.1) with
          | true =>
            have HN : Hid (rls qs' = ((rls qs2).take (k + 1)).foldl keepS []) := Lib.hid (by rw [keep_step (rls_at HQK.out), ← HE.out, keepS_yes hany])
            clear hany
            go_wp2
            go_roundg ga
            case measure => omega
            case rel =>
              go_light
              exact ⟨k + 1, A', m, c', qs', by omega, by omega, by go_num, Lib.hid (sub_more HS.out), HN, Lib.hid ((HO.out.up HF.out).wide (Nat.le_refl _) hbs), HOB, XF, Lib.hid (HK.out.upB HF.out)⟩
          | false =>
            have HN : Hid (rls (qs' ++ [q]) = ((rls qs2).take (k + 1)).foldl keepS []) := Lib.hid (by rw [keep_step (rls_at HQK.out), ← HE.out, keepS_no hany, rls_app]; rfl)
            clear hany
            have HCC : Hid (∀ W : World, W.heap.size = wr.heap.size → Rd (W.alloc (.cells #[.int .i64 q.1.v, .int .i64 q.1.lo, .int .i64 q.1.hi, .slice TA q.1.ts.length tc] 35)) (wr.heap.size + 1) 4 (some ⟨wr.heap.size, 0, none⟩) 1 (rcells [q])) := Lib.hid (fun W hW => by rw [rcells_one HQV.out]; exact rd_new (w := W) hW 35 4 1 [.int .i64 q.1.v, .int .i64 q.1.lo, .int .i64 q.1.hi, .slice TA q.1.ts.length tc] rfl)
            have HOW := Lib.hid (HO.out.up HF.out)
            have HTW := Lib.hid (HT.out.up HF.out)
            have KW := Lib.hid (HK.out.upB HF.out)
            have nx : w1.heap.size ≠ wr.heap.size := by have := XF.out.lt; omega
            have xl : w1.heap.size < wr.heap.size := XF.out.lt
            have yl : w2.heap.size < wr.heap.size := YF.out.lt
            have ng : g ≠ wr.heap.size := by omega
            go_wp2
            go_region_law (first
              | (refine step_append_rd _ (by rfl) _ _ 23 (by rfl) (w1.heap.size + 1) 35 i0 _ 4 48 Tryd.underlying23 hi0 hz0 hz1 hz2 rfl (by omega) (.slice A' m c') m (rcells qs') (by rfl) (OP.own (HOW.out.up (by go_grown))) (wr.heap.size + 1) (some ⟨wr.heap.size, 0, none⟩) 1 1 (rcells [q]) (by rfl) (HCC.out _ (by rfl)) (one_rcells (fun x hx => by rw [List.mem_singleton.1 hx]; exact HTW.out)) (by unfold maxLen; omega) (by omega) (by (try simp) <;> omega) ?_; intro A5 c5 w5 h5 g5 a5; have hs5 := g5.size; (try simp at hs5); have O5 := Lib.hid (OP.app (HOW.out.up (by go_grown)) (by decide) (hi' := w5.heap.size) (fun x hx => by rw [List.mem_singleton.1 hx]; exact (HTW.out.up (by go_grown)).wide (Nat.le_refl _) (by omega)) (by omega) h5 g5 (Nat.le_refl _)); have OB5 := Lib.hid (ob_app a5 HOB.out (by (try simp) <;> omega)); have X5 := Lib.hid ((XF.out.up (by go_grown)).gn g5 (fun e => by have := HOB.out _ e; omega)); have K5 := Lib.hid ((KW.out.upB (by go_grown)).grown g5 (fun t ht hlt e => by have := HOB.out t e; omega)); have x50 := X5.out.cell (i := 0) rfl; have x5f := X5.out.free; clear h5 g5 a5))
            all_goals
              go_wp2
              go_roundg ga
              case measure => omega
              case rel =>
                go_light
                exact ⟨k + 1, A5, m + 1, c5, qs' ++ [q], by omega, by omega, by go_num, Lib.hid (sub_add HS.out HQK.out), HN, Lib.hid ((O5.out.set_ (g := w1.heap.size) (o := 0) (.inl (by omega)) _).wide (Nat.le_refl _) (by simp)), OB5, X5.out.set_ 0 _, Lib.hid (K5.out.set_ _ (fun t ht _ e => ht e.symm))⟩
        · obtain ⟨gk, rfl⟩ : ∃ x, gk = x + 1 := ⟨gk - 1, by omega⟩
          obtain ⟨g', q', TA', tc', rfl, hg1', hg2', hg3', hq', hqv', d0, d1, d2, d3, _, hql'⟩ := (HO.out.up HF.out).at_ (show m < n' by omega)
          have HQ' := Lib.hid (rls_at hq')
          have HTR' : Hid (Rd wr wr.heap.size 4 TA' q'.1.ts.length (tsts q'.1.ts)) := Lib.hid (Rd.of_own (c := tc') (by have := ((HO.out.up HF.out).tst q' (List.mem_of_getElem? hq')).own; rw [hqv'] at this; exact this))
          have HST := Lib.hid (any_step (r := q.1) HQ'.out)
          have hm1 : (m : Int) < (n' : Int) := by omega
          have hk1 : (k : Int) < (rs.length : Int) := by omega
          have hm0 : (0 : Int) ≤ (m : Int) := by omega
          have hk0 : (0 : Int) ≤ (k : Int) := by omega
          clear hq' hqv'
          cases hany : ((rls qs').take m).any (fun a => covB a q.1) with
          | true =>
            have HA := Lib.hid hany
            clear hany
            go_wp2
            go_quiet (fail)
            go_wp2
            go_roundg gk
            case measure => omega
            case rel =>
              go_light
              exact ⟨m + 1, by omega, by go_num, by rw [HST.out, HA.out]; rfl, Lib.hid (below_drewN HF.out nq)⟩
          | false =>
            have HA := Lib.hid hany
            have HC := Lib.hid (fun W h k => l13Covers_c q'.1 q.1 TA' TA tc' tc W h k hql' hql)
            clear hany
            go_wp2
            go_region_held3 (fun w' => w'.cell? ⟨w1.heap.size, 0, none⟩ = some (.slice (some ⟨g', 0, none⟩) n' c') ∧ w'.cell? ⟨w2.heap.size, 0, none⟩ = some (.slice (some ⟨g, 0, none⟩) rs.length c2) ∧
                w'.cell? ⟨g', m * 4, none⟩ = some (.int .i64 q'.1.v) ∧ w'.cell? ⟨g', m * 4 + 1, none⟩ = some (.int .i64 q'.1.lo) ∧ w'.cell? ⟨g', m * 4 + 2, none⟩ = some (.int .i64 q'.1.hi) ∧ w'.cell? ⟨g', m * 4 + 3, none⟩ = some (.slice TA' q'.1.ts.length tc') ∧
                w'.cell? ⟨g, k * 4, none⟩ = some (.int .i64 q.1.v) ∧ w'.cell? ⟨g, k * 4 + 1, none⟩ = some (.int .i64 q.1.lo) ∧ w'.cell? ⟨g, k * 4 + 2, none⟩ = some (.int .i64 q.1.hi) ∧ w'.cell? ⟨g, k * 4 + 3, none⟩ = some (.slice TA q.1.ts.length tc)) (simp [go_sem, *])
              ((go_at_call 88; refine (HC.out _ (HTR'.out.upB (by go_grown) (by go_size)) ((HTR.out.below (below_via HF.out (by go_grown))).more (by (try simp) <;> omega))).mono ?_; rintro e w5 ⟨rfl, b5⟩; obtain ⟨gc5, gf5⟩ := below_get b5; (try simp only [heap_drew, World.size_alloc, World.size_setCell] at gc5 gf5); have L5 := Lib.hid (below_on HF.out (by go_grown) b5); have xl5 : w1.heap.size < wr.heap.size := XF.out.lt; have yl5 : w2.heap.size < wr.heap.size := YF.out.lt; clear b5))
            go_wp2
            go_roundg gk
            case measure => omega
            case rel =>
              go_light
              exact ⟨m + 1, by omega, by go_num, by rw [HST.out, HA.out, Bool.false_or], L5⟩
theorem specPolicyTrim_c (A : Option Addr) (n c : Nat) (rs : List Rl) (e : Int) (w : World) (hn : n ≤ 9223372036854775807) (hr : RdR w w.heap.size A n rs) :
    Calls Tryd.prog 38 #[.agg #[.slice A n c, .int .i64 e]] w (RetPol 35 83 (trimP ⟨rs, e⟩) w) := by
  unfold trimP
  by_cases h : polOk ⟨rs, e⟩ = true
  · rw [if_pos h]
    exact specPolicyTrim_yes A n c rs e w hn hr h
  · rw [if_neg h]
    exact specPolicyTrim_no A n c rs e w hn hr (by simpa using h)
end Go.Proofs.YtljgaepgblakhaaDoor
