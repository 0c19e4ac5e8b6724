/- l13Words: the reference's words near what a policy looks at, in a field. Conditions: each contract's own. -/
import Derived.Test.YtmfienlceobfeaaDoorJa5b49171d3
namespace Go.Proofs.YtmfienlceobfeaaDoor
set_option linter.unusedSimpArgs false
open Go.RowKit
set_option linter.unusedVariables false
set_option linter.unnecessarySimpa false
set_option maxRecDepth 20000
theorem putI_pos {l : List Int} (h : 0 < l.length) (n : Int) : 0 < (putI l n).length := by
  unfold putI
  split
  · split
    · exact h
    · simp; omega
  · exact h
theorem rdN_some {w : World} {B n : Nat} {A : Option Addr} {xs : List Value} (h : Rd w B 1 A n xs) (hn : 0 < n) : ∃ b off, A = some ⟨b, off, none⟩ := by
  obtain ⟨b, off, e, _⟩ := h.2 hn
  exact ⟨b, off, e⟩
theorem words_take {f : Int} {rs : List Rl} {k : Nat} {r : Rl} (h : rs[k]? = some r) : (rawW f (rs.take (k + 1))).foldl putI [0] = (rawR f r).foldl putI ((rawW f (rs.take k)).foldl putI [0]) := by rw [rawW_take h, List.foldl_append]
theorem wordsT_take {f : Int} {ts : List Tst} {k : Nat} {t : Tst} {zs : List Int} (h : ts[k]? = some t) : ((ts.take (k + 1)).flatMap (rawT f)).foldl putI zs = (rawT f t).foldl putI (((ts.take k).flatMap (rawT f)).foldl putI zs) := by rw [rawT_take h, List.foldl_append]
set_option maxHeartbeats 8000000 in
set_option maxRecDepth 100000 in
theorem l13Words_c (A : Option Addr) (n c : Nat) (rs : List Rl) (e f : Int) (w : World) (hn : n ≤ 8) (hr : RdR w w.heap.size A n rs) (hB : rs.all ruleB = true) :
    Calls Tryd.prog 28 #[.agg #[.slice A n c, .int .i64 e], .int .i64 f] w (RetOwn 3 1 (nearW rs f).length (ints (nearW rs f)) w) := by
  have hl1 := hr.1
  subst hl1
  have HR := Lib.hid hr
  have HTS : Hid (∀ r ∈ rs, r.ts.length ≤ 4 ∧ 0 ≤ r.lo ∧ r.lo ≤ 4294967295 ∧ 0 ≤ r.hi ∧ r.hi ≤ 4294967295 ∧ ∀ t ∈ r.ts, 0 ≤ t.x ∧ t.x ≤ 4294967295 ∧ 1 ≤ t.f) := Lib.hid (fun r hr => by
    rw [List.all_eq_true] at hB
    obtain ⟨_, h1, h2, h3, h4, h5⟩ := rule_and (hB r hr)
    rw [List.all_eq_true] at h5
    refine ⟨h4, h1, by omega, by omega, h3, fun t ht => ?_⟩
    have := tst_and (h5 t ht)
    omega)
  clear hr hB
  unfold nearW
  go_enter Tryd.func28, Tryd.ntmps28
  have HX0 := Lib.hid ((Blk.new w 25 [.slice A rs.length c, .int .i64 e]).alloc (.cells #[.int .i64 0] 3))
  have HR0 : Hid (((w.alloc (.cells #[.slice A rs.length c, .int .i64 e] 25)).alloc (.cells #[.int .i64 0] 3)).ownsRow (w.heap.size + 1) 3 1 (.slice (some ⟨w.heap.size + 1, 0, none⟩) [(0 : Int)].length 1) [(0 : Int)].length (ints [0])) := Lib.hid (by simpa [ints] using own_newN (w.alloc (.cells #[.slice A rs.length c, .int .i64 e] 25)) 3 (w.heap.size + 1) (by simp) 1 [.int .i64 0] rfl (one_intsN [0]) (by omega))
  go_wp2_with fail
  go_loopg [5, 6] rs.length (fun gk v i wr => ∃ (k : Nat) (b0 o0 c0 : Nat) (zs : List Int), gk + k = rs.length ∧ i = .int .i64 k ∧ v = .slice (some ⟨b0, o0, none⟩) zs.length c0 ∧ 0 < zs.length ∧ zs.length ≤ 1 + 12 * k ∧ Hid (zs = (rawW f (rs.take k)).foldl putI [0]) ∧ Hid (wr.ownsRow (w.heap.size + 1) 3 1 (.slice (some ⟨b0, o0, none⟩) zs.length c0) zs.length (ints zs)) ∧ Hid (Blk wr w.heap.size 25 [.slice A rs.length c, .int .i64 e]) ∧ Hid (Below w.heap.size w wr) ∧ w.heap.size + 1 ≤ wr.heap.size)
  case atStart => exact ⟨0, _, _, 1, [0], by omega, rfl, rfl, by simp, by simp, Lib.hid (by simp [rawW]), HR0, HX0, Lib.hid (by go_grown), by simp⟩
  case round =>
    obtain ⟨k, b0, o0, c0, zs, hgk, rfl, rfl, hzp, hzl, HZ, R0, HX, HF, hsz⟩ := hrel
    have hbs := HF.out.size
    have xp0 := HX.out.cell (i := 0) rfl
    by_cases hk : gk = 0
    · subst hk
      have hkn : k = rs.length := by omega
      subst hkn
      rw [List.take_length] at HZ
      go_wp2
      go_returns
      rw [← HZ.out]
      exact ⟨_, c0, rfl, own_base R0.out (by omega), HF.out⟩
    · obtain ⟨gk, rfl⟩ : ∃ m, gk = m + 1 := ⟨gk - 1, by omega⟩
      have hlt : k < rs.length := by omega
      obtain ⟨b, off, r, rfl, hb, hp, TA, tc, e0, e1, e2, e3, hrt, hrl⟩ := HR.out.rl hlt
      have k0 := (HF.out.cell (p := ⟨b, off + k * 4, none⟩) hb).trans e0
      have k1 := (HF.out.cell (p := ⟨b, off + k * 4 + 1, none⟩) hb).trans e1
      have k2 := (HF.out.cell (p := ⟨b, off + k * 4 + 2, none⟩) hb).trans e2
      have k3 := (HF.out.cell (p := ⟨b, off + k * 4 + 3, none⟩) hb).trans e3
      clear e0 e1 e2 e3
      have hb2 : b < wr.heap.size := by omega
      have HT0 : Hid (Rd w w.heap.size 4 TA r.ts.length (tsts r.ts)) := Lib.hid hrt
      obtain ⟨h4, l0, l1, u0, u1, htx⟩ := HTS.out r (List.mem_of_getElem? hp)
      have HTX := Lib.hid htx
      have HFA := Lib.hid (words_take (f := f) hp)
      have X0 := Lib.hid (Blk.new wr 37 [.int .i64 r.v, .int .i64 r.lo, .int .i64 r.hi, .slice TA r.ts.length tc])
      clear hp hrt htx
      obtain ⟨ga, rfl⟩ : ∃ x : Nat, x = gk := ⟨_, rfl⟩
      obtain ⟨wo, rfl⟩ : ∃ x : World, x = wr := ⟨_, rfl⟩
      by_cases hf : f = 0
      · have f1 : (f == 0) = true := by simpa using hf
        have HRU := Lib.hid (rawR_zero hf r)
        subst hf
        have kw1 : IntKind.i64.wrap (r.lo - 1) = r.lo - 1 := by rw [IntKind.wrap_i64]; omega
        have kw2 : IntKind.i64.wrap (r.hi + 1) = r.hi + 1 := by rw [IntKind.wrap_i64]; omega
        go_upto_region 7 with fail
        have hp1 := putI_len zs (r.lo - 1)
        have hp2 := putI_len (putI zs (r.lo - 1)) r.lo
        have hp3 := putI_len (putI (putI zs (r.lo - 1)) r.lo) r.hi
        have hp4 := putI_len (putI (putI (putI zs (r.lo - 1)) r.lo) r.hi) (r.hi + 1)
        have hq1 := putI_pos hzp (r.lo - 1)
        have hq2 := putI_pos hq1 r.lo
        have hq3 := putI_pos hq2 r.hi
        have hq4 := putI_pos hq3 (r.hi + 1)
        refine wp_region_held_drew (S := (fun w' => w'.cell? ⟨wo.heap.size, 1, none⟩ = some (.int .i64 r.lo) ∧ w'.cell? ⟨wo.heap.size, 2, none⟩ = some (.int .i64 r.hi))) (by kernel_rfl) ?_ (fun hHeld => ?_)
        · ((try dsimp only); (simp [go_sem, *]))
        refine wpAnyH_take (i := 0) (oi := _) (v := ?_) rfl (by kernel_rfl) (by kernel_rfl) (by kernel_rfl) (fun _ _ _ h => h) (Or.inl ⟨by rfl, ?_⟩) (by assumption) ?_
        rotate_left
        · (intro w hSw; (try dsimp only at hSw); go_simp; (try with_reducible rfl))
        (try simp only [Act.put, List.setIfInBounds_toArray, List.set_cons_zero, List.set_cons_succ])
        refine wpAnyH_take (i := 1) (oi := _) (v := ?_) rfl (by kernel_rfl) (by kernel_rfl) (by kernel_rfl) (fun _ _ _ h => h) (Or.inl ⟨by rfl, ?_⟩) (by assumption) ?_
        rotate_left
        · (intro w hSw; (try dsimp only at hSw); go_simp; (try with_reducible rfl))
        (try simp only [Act.put, List.setIfInBounds_toArray, List.set_cons_zero, List.set_cons_succ])
        refine wpAnyH_take (i := 2) (oi := _) (v := ?_) rfl (by kernel_rfl) (by kernel_rfl) (by kernel_rfl) (fun _ _ _ h => h) (Or.inl ⟨by rfl, ?_⟩) (by assumption) ?_
        rotate_left
        · (intro w hSw; (try dsimp only at hSw); go_simp; (try with_reducible rfl))
        (try simp only [Act.put, List.setIfInBounds_toArray, List.set_cons_zero, List.set_cons_succ])
        refine wpAnyH_take (i := 3) (oi := _) (v := ?_) rfl (by kernel_rfl) (by kernel_rfl) (by kernel_rfl) (fun _ _ _ h => h) (Or.inl ⟨by rfl, ?_⟩) (by assumption) ?_
        rotate_left
        · (intro w hSw; (try dsimp only at hSw); go_simp; (try with_reducible rfl))
        (try simp only [Act.put, List.setIfInBounds_toArray, List.set_cons_zero, List.set_cons_succ])
        refine wpAnyH_take (i := 5) (oi := _) (v := ?_) rfl (by kernel_rfl) (by kernel_rfl) (by kernel_rfl) (fun _ _ _ h => h) (Or.inl ⟨by rfl, ?_⟩) (by assumption) ?_
        rotate_left
        · (intro w hSw; (try dsimp only at hSw); go_simp; (try with_reducible rfl))
        (try simp only [Act.put, List.setIfInBounds_toArray, List.set_cons_zero, List.set_cons_succ])
        refine wpAnyH_take (i := 6) (oi := _) (v := ?_) rfl (by kernel_rfl) (by kernel_rfl) (by kernel_rfl) (fun _ _ _ h => h) (Or.inl ⟨by rfl, ?_⟩) (by assumption) ?_
        rotate_left
        · (intro w hSw; (try dsimp only at hSw); go_simp; (try with_reducible rfl))
        (try simp only [Act.put, List.setIfInBounds_toArray, List.set_cons_zero, List.set_cons_succ])
        refine wpAnyH_take (i := 8) (oi := _) (v := ?_) rfl (by kernel_rfl) (by kernel_rfl) (by kernel_rfl) (fun _ _ _ h => h) (Or.inl ⟨by rfl, ?_⟩) (by assumption) ?_
        rotate_left
        · (intro w hSw; (try dsimp only at hSw); go_simp; (try with_reducible rfl))
        (try simp only [Act.put, List.setIfInBounds_toArray, List.set_cons_zero, List.set_cons_succ])
        refine wpAnyH_take (i := 9) (oi := _) (v := ?_) rfl (by kernel_rfl) (by kernel_rfl) (by kernel_rfl) (fun _ _ _ h => h) (Or.inl ⟨by rfl, ?_⟩) (by assumption) ?_
        rotate_left
        · (intro w hSw; (try dsimp only at hSw); go_simp; (try with_reducible rfl))
        (try simp only [Act.put, List.setIfInBounds_toArray, List.set_cons_zero, List.set_cons_succ])
        refine wpAnyH_take (i := 11) (oi := _) (v := ?_) rfl (by kernel_rfl) (by kernel_rfl) (by kernel_rfl) (fun _ _ _ h => h) (Or.inl ⟨by rfl, ?_⟩) (by assumption) ?_
        rotate_left
        · (intro w hSw; (try dsimp only at hSw); go_simp; (try with_reducible rfl))
        (try simp only [Act.put, List.setIfInBounds_toArray, List.set_cons_zero, List.set_cons_succ])
        refine wpAnyH_take (i := 12) (oi := _) (v := ?_) rfl (by kernel_rfl) (by kernel_rfl) (by kernel_rfl) (fun _ _ _ h => h) (Or.inl ⟨by rfl, ?_⟩) (by assumption) ?_
        rotate_left
        · (intro w hSw; (try dsimp only at hSw); go_simp; (try with_reducible rfl))
        (try simp only [Act.put, List.setIfInBounds_toArray, List.set_cons_zero, List.set_cons_succ])
        refine wpAnyH_take (i := 13) (oi := _) (v := ?_) rfl (by kernel_rfl) (by kernel_rfl) (by kernel_rfl) (fun _ _ _ h => h) (Or.inl ⟨by rfl, ?_⟩) (by assumption) ?_
        rotate_left
        · (intro w hSw; (try dsimp only at hSw); go_simp; (try with_reducible rfl))
        (try simp only [Act.put, List.setIfInBounds_toArray, List.set_cons_zero, List.set_cons_succ])
        refine wpAnyH_ready (rs := [4]) (by kernel_rfl) (by simp) ?_
        refine AllReadyH.cons (o := _) rfl (fun K hK => ?_) AllReadyH.nil
        go_simp
        ((go_at_call 37; refine (l13Put_c b0 o0 zs.length c0 (w.heap.size + 1) zs _ _ (own_up R0.out (by go_grown)) (by (try simp); omega) (by omega)).mono ?_; rintro e w1 ⟨A1, c1, rfl, r1, g1⟩; obtain ⟨b1, o1, rfl⟩ := rdN_some (Rd.of_own r1) hq1; have R1 := Lib.hid r1; have X1 := Lib.hid (X0.out.up (below_via (by go_grown) g1)); have G1 : Hid (Below wo.heap.size wo w1) := Lib.hid (below_via (by go_grown) g1); have s1 := g1.size; (try simp at s1); have x11 := X1.out.cell (i := 1) rfl; have x12 := X1.out.cell (i := 2) rfl; clear r1 g1))
        (try go_wp2_with fail)
        refine hK.out _ _ ?_ (fun hHeld => ?_)
        · ((try dsimp only); (simp [go_sem, *]))
        clear hK K
        (try simp only [Act.put, List.setIfInBounds_toArray, List.set_cons_zero, List.set_cons_succ])
        refine wpAnyH_ready (rs := [7]) (by kernel_rfl) (by simp) ?_
        refine AllReadyH.cons (o := _) rfl (fun K hK => ?_) AllReadyH.nil
        go_simp
        ((go_at_call 37; refine (l13Put_c b1 o1 _ c1 (w.heap.size + 1) _ _ _ R1.out (by omega) (by omega)).mono ?_; rintro e w2 ⟨A2, c2, rfl, r2, g2⟩; obtain ⟨b2, o2, rfl⟩ := rdN_some (Rd.of_own r2) hq2; have R2 := Lib.hid r2; have X2 := Lib.hid (X1.out.up g2); have G2 := Lib.hid (below_via G1.out g2); have s2 := g2.size; (try simp at s2); have x21 := X2.out.cell (i := 1) rfl; have x22 := X2.out.cell (i := 2) rfl; clear r2 g2))
        (try go_wp2_with fail)
        refine hK.out _ _ ?_ (fun hHeld => ?_)
        · ((try dsimp only); (simp [go_sem, *]))
        clear hK K
        (try simp only [Act.put, List.setIfInBounds_toArray, List.set_cons_zero, List.set_cons_succ])
        refine wpAnyH_ready (rs := [10]) (by kernel_rfl) (by simp) ?_
        refine AllReadyH.cons (o := _) rfl (fun K hK => ?_) AllReadyH.nil
        go_simp
        ((go_at_call 37; refine (l13Put_c b2 o2 _ c2 (w.heap.size + 1) _ _ _ R2.out (by omega) (by omega)).mono ?_; rintro e w3 ⟨A3, c3, rfl, r3, g3⟩; obtain ⟨b3, o3, rfl⟩ := rdN_some (Rd.of_own r3) hq3; have R3 := Lib.hid r3; have X3 := Lib.hid (X2.out.up g3); have G3 := Lib.hid (below_via G2.out g3); have s3 := g3.size; (try simp at s3); have x31 := X3.out.cell (i := 1) rfl; have x32 := X3.out.cell (i := 2) rfl; clear r3 g3))
        (try go_wp2_with fail)
        refine hK.out _ _ ?_ (fun hHeld => ?_)
        · ((try dsimp only); (simp [go_sem, *]))
        clear hK K
        (try simp only [Act.put, List.setIfInBounds_toArray, List.set_cons_zero, List.set_cons_succ])
        refine wpAnyH_ready (rs := [14]) (by kernel_rfl) (by simp) ?_
        refine AllReadyH.cons (o := _) rfl (fun K hK => ?_) AllReadyH.nil
        go_simp
        ((go_at_call 37; refine (l13Put_c b3 o3 _ c3 (w.heap.size + 1) _ _ _ R3.out (by omega) (by omega)).mono ?_; rintro e w4 ⟨A4, c4, rfl, r4, g4⟩; obtain ⟨b4, o4, rfl⟩ := rdN_some (Rd.of_own r4) hq4; have R4 := Lib.hid r4; have X4 := Lib.hid (X3.out.up g4); have G4 := Lib.hid (below_via G3.out g4); have s4 := g4.size; (try simp at s4); have x41 := X4.out.cell (i := 1) rfl; have x42 := X4.out.cell (i := 2) rfl; clear r4 g4))
        (try go_wp2_with fail)
        refine hK.out _ _ ?_ (fun hHeld => ?_)
        · ((try dsimp only); (simp [go_sem, *]))
        clear hK K
        (try simp only [Act.put, List.setIfInBounds_toArray, List.set_cons_zero, List.set_cons_succ])
        refine wpAnyH_take (i := 15) (oi := _) (v := ?_) rfl (by kernel_rfl) (by kernel_rfl) (by kernel_rfl) (fun _ _ _ h => h) (Or.inl ⟨by rfl, ?_⟩) (by assumption) ?_
        rotate_left
        · (intro w hSw; (try dsimp only at hSw); go_simp; (try with_reducible rfl))
        (try simp only [Act.put, List.setIfInBounds_toArray, List.set_cons_zero, List.set_cons_succ])
        refine wpAnyH_done (by kernel_rfl) ?_ _
        (try simp only [List.getElem_toArray, List.getElem_cons_zero, List.getElem_cons_succ, List.setIfInBounds_toArray, List.set_cons_zero, List.set_cons_succ])
        have e4 : putI (putI (putI (putI zs (r.lo - 1)) r.lo) r.hi) (r.hi + 1) = (rawW 0 (rs.take (k + 1))).foldl putI [0] := by rw [HFA.out, HRU.out, HZ.out]; rfl
        generalize putI (putI (putI (putI zs (r.lo - 1)) r.lo) r.hi) (r.hi + 1) = z4 at *
        have HZ4 := Lib.hid e4
        clear e4 HZ
        have FX := Lib.hid (HX.out.up G4.out)
        have FF := Lib.hid (below_via HF.out G4.out)
        have sG := G4.out.size
        have zW : wo.heap.size < w4.heap.size := X4.out.lt
        have hz4l : z4.length ≤ 1 + 12 * (k + 1) := by omega
        clear X0 X1 X2 X3 R1 R2 R3 G1 G2 G3 s1 s2 s3 s4 hp1 hp2 hp3 hp4 hq1 hq2 hq3
        go_wp2_with fail
        go_loopg [5, 8] r.ts.length (fun gj v j wr => ∃ (m : Nat), gj + m = r.ts.length ∧ j = .int .i64 m ∧ v = .slice (some ⟨b4, o4, none⟩) z4.length c4 ∧ Hid (wr.ownsRow (w.heap.size + 1) 3 1 (.slice (some ⟨b4, o4, none⟩) z4.length c4) z4.length (ints z4)) ∧ Hid (Blk wr wo.heap.size 37 [.int .i64 r.v, .int .i64 r.lo, .int .i64 r.hi, .slice TA r.ts.length tc]) ∧ Hid (Blk wr w.heap.size 25 [.slice (some ⟨b, off, none⟩) rs.length c, .int .i64 e]) ∧ Hid (Below w.heap.size w wr) ∧ wo.heap.size < wr.heap.size)
        case atStart => exact ⟨0, by omega, rfl, rfl, R4, X4, FX, FF, zW⟩
        case round =>
          clear R4 X4 FX FF zW
          obtain ⟨m, hgm, rfl, rfl, R4, XR, FX, FF, hsz'⟩ := hrel
          have hbs' := FF.out.size
          have xr3 := XR.out.cell (i := 3) rfl
          by_cases hj : gk = 0
          · subst hj
            have hmn : m = r.ts.length := by omega
            subst hmn
            go_wp2
            go_roundg ga
            case measure => omega
            case rel =>
              go_light
              exact ⟨k + 1, b4, o4, c4, z4, by omega, by go_num, rfl, hq4, by omega, HZ4, R4, FX, FF, by omega⟩
          · obtain ⟨gk, rfl⟩ : ∃ x, gk = x + 1 := ⟨gk - 1, by omega⟩
            have hlm : m < r.ts.length := by omega
            have hrt2 : Rd wr w.heap.size 4 TA r.ts.length (tsts r.ts) := HT0.out.below FF.out
            obtain ⟨tb, toff, t, rfl, htb, ht, t0, t1, t2, t3⟩ := hrt2.tst hlm
            have htb2 : tb < wr.heap.size := by omega
            obtain ⟨x0, x1, x2⟩ := HTX.out t (List.mem_of_getElem? ht)
            have f2 : (t.f == 0) = false := by simp; omega
            clear ht hrt2
            obtain ⟨gb, rfl⟩ : ∃ x : Nat, x = gk := ⟨_, rfl⟩
            obtain ⟨wi, rfl⟩ : ∃ x : World, x = wr := ⟨_, rfl⟩
            go_wp2_with fail
            go_roundg gb
            case measure => omega
            case rel =>
              go_light
              exact ⟨m + 1, by omega, by go_num, rfl, Lib.hid (own_up R4.out (by go_grown)), Lib.hid (XR.out.alloc _), Lib.hid (FX.out.alloc _), Lib.hid (show Below w.heap.size w _ from below_via FF.out (by go_grown)), by simp; omega⟩
      · have f1 : (f == 0) = false := by simpa using hf
        have HRU := Lib.hid (rawR_other hf r)
        clear hf
        have HX1 := Lib.hid (HX.out.alloc (.cells #[.int .i64 r.v, .int .i64 r.lo, .int .i64 r.hi, .slice TA r.ts.length tc] 37))
        have zW : wo.heap.size < (wo.alloc (.cells #[.int .i64 r.v, .int .i64 r.lo, .int .i64 r.hi, .slice TA r.ts.length tc] 37)).heap.size := by (try simp) <;> omega
        go_wp2_with fail
        go_loopg [5, 8] r.ts.length (fun gj v j wr => ∃ (m b0 o0 c0 : Nat) (ys : List Int), gj + m = r.ts.length ∧ j = .int .i64 m ∧ v = .slice (some ⟨b0, o0, none⟩) ys.length c0 ∧ 0 < ys.length ∧ ys.length ≤ 1 + 12 * k + 3 * m ∧ Hid (ys = ((r.ts.take m).flatMap (rawT f)).foldl putI zs) ∧ Hid (wr.ownsRow (w.heap.size + 1) 3 1 (.slice (some ⟨b0, o0, none⟩) ys.length c0) ys.length (ints ys)) ∧ Hid (Blk wr wo.heap.size 37 [.int .i64 r.v, .int .i64 r.lo, .int .i64 r.hi, .slice TA r.ts.length tc]) ∧ Hid (Blk wr w.heap.size 25 [.slice (some ⟨b, off, none⟩) rs.length c, .int .i64 e]) ∧ Hid (Below w.heap.size w wr) ∧ wo.heap.size < wr.heap.size)
        case atStart => exact ⟨0, b0, o0, c0, zs, by omega, rfl, rfl, hzp, by omega, Lib.hid (by simp), Lib.hid (own_up R0.out (by go_grown)), X0, HX1, Lib.hid (show Below w.heap.size w _ from below_via HF.out (by go_grown)), zW⟩
        case round =>
          clear R0 X0 HX1 HX zW
          obtain ⟨m, b0, o0, c0, ys, hgm, rfl, rfl, hyp, hyl, HY, R0, XR, HX, HF', hsz'⟩ := hrel
          have hbs' := HF'.out.size
          have xr3 := XR.out.cell (i := 3) rfl
          by_cases hj : gk = 0
          · subst hj
            have hmn : m = r.ts.length := by omega
            subst hmn
            rw [List.take_length] at HY
            have HN : Hid (ys = (rawW f (rs.take (k + 1))).foldl putI [0]) := Lib.hid (by rw [HY.out, HFA.out, HRU.out, HZ.out])
            go_wp2
            go_roundg ga
            case measure => omega
            case rel =>
              go_light
              exact ⟨k + 1, b0, o0, c0, ys, by omega, by go_num, rfl, hyp, by omega, HN, R0, HX, HF', by omega⟩
          · obtain ⟨gk, rfl⟩ : ∃ x, gk = x + 1 := ⟨gk - 1, by omega⟩
            have hlm : m < r.ts.length := by omega
            have hrt2 : Rd wr w.heap.size 4 TA r.ts.length (tsts r.ts) := HT0.out.below HF'.out
            obtain ⟨tb, toff, t, rfl, htb, ht, t0, t1, t2, t3⟩ := hrt2.tst hlm
            have htb2 : tb < wr.heap.size := by omega
            have HTK := Lib.hid (wordsT_take (f := f) (zs := zs) ht)
            obtain ⟨x0, x1, x2⟩ := HTX.out t (List.mem_of_getElem? ht)
            have kw3 : IntKind.i64.wrap (t.x - 1) = t.x - 1 := by rw [IntKind.wrap_i64]; omega
            have kw4 : IntKind.i64.wrap (t.x + 1) = t.x + 1 := by rw [IntKind.wrap_i64]; omega
            have X0 := Lib.hid (Blk.new wr 52 [.int .i64 t.f, .int .i64 t.m, .int .i64 t.op, .int .i64 t.x])
            clear ht hrt2
            obtain ⟨gb, rfl⟩ : ∃ x : Nat, x = gk := ⟨_, rfl⟩
            obtain ⟨wi, rfl⟩ : ∃ x : World, x = wr := ⟨_, rfl⟩
            by_cases hft : t.f = f
            · have f2 : (t.f == f) = true := by simpa using hft
              have HRT := Lib.hid (rawT_yes hft)
              clear hft
              go_upto_region 13 with fail
              have hp1 := putI_len ys (t.x - 1)
              have hp2 := putI_len (putI ys (t.x - 1)) t.x
              have hp3 := putI_len (putI (putI ys (t.x - 1)) t.x) (t.x + 1)
              have hq1 := putI_pos hyp (t.x - 1)
              have hq2 := putI_pos hq1 t.x
              have hq3 := putI_pos hq2 (t.x + 1)
              refine wp_region_held_drew (S := (fun w' => w'.cell? ⟨wi.heap.size, 3, none⟩ = some (.int .i64 t.x))) (by kernel_rfl) ?_ (fun hHeld => ?_)
              · ((try dsimp only); (simp [go_sem, *]))
              refine wpAnyH_take (i := 0) (oi := _) (v := ?_) rfl (by kernel_rfl) (by kernel_rfl) (by kernel_rfl) (fun _ _ _ h => h) (Or.inl ⟨by rfl, ?_⟩) (by assumption) ?_
              rotate_left
              · (intro w hSw; (try dsimp only at hSw); go_simp; (try with_reducible rfl))
              (try simp only [Act.put, List.setIfInBounds_toArray, List.set_cons_zero, List.set_cons_succ])
              refine wpAnyH_take (i := 1) (oi := _) (v := ?_) rfl (by kernel_rfl) (by kernel_rfl) (by kernel_rfl) (fun _ _ _ h => h) (Or.inl ⟨by rfl, ?_⟩) (by assumption) ?_
              rotate_left
              · (intro w hSw; (try dsimp only at hSw); go_simp; (try with_reducible rfl))
              (try simp only [Act.put, List.setIfInBounds_toArray, List.set_cons_zero, List.set_cons_succ])
              refine wpAnyH_take (i := 2) (oi := _) (v := ?_) rfl (by kernel_rfl) (by kernel_rfl) (by kernel_rfl) (fun _ _ _ h => h) (Or.inl ⟨by rfl, ?_⟩) (by assumption) ?_
              rotate_left
              · (intro w hSw; (try dsimp only at hSw); go_simp; (try with_reducible rfl))
              (try simp only [Act.put, List.setIfInBounds_toArray, List.set_cons_zero, List.set_cons_succ])
              refine wpAnyH_take (i := 3) (oi := _) (v := ?_) rfl (by kernel_rfl) (by kernel_rfl) (by kernel_rfl) (fun _ _ _ h => h) (Or.inl ⟨by rfl, ?_⟩) (by assumption) ?_
              rotate_left
              · (intro w hSw; (try dsimp only at hSw); go_simp; (try with_reducible rfl))
              (try simp only [Act.put, List.setIfInBounds_toArray, List.set_cons_zero, List.set_cons_succ])
              refine wpAnyH_take (i := 5) (oi := _) (v := ?_) rfl (by kernel_rfl) (by kernel_rfl) (by kernel_rfl) (fun _ _ _ h => h) (Or.inl ⟨by rfl, ?_⟩) (by assumption) ?_
              rotate_left
              · (intro w hSw; (try dsimp only at hSw); go_simp; (try with_reducible rfl))
              (try simp only [Act.put, List.setIfInBounds_toArray, List.set_cons_zero, List.set_cons_succ])
              refine wpAnyH_take (i := 6) (oi := _) (v := ?_) rfl (by kernel_rfl) (by kernel_rfl) (by kernel_rfl) (fun _ _ _ h => h) (Or.inl ⟨by rfl, ?_⟩) (by assumption) ?_
              rotate_left
              · (intro w hSw; (try dsimp only at hSw); go_simp; (try with_reducible rfl))
              (try simp only [Act.put, List.setIfInBounds_toArray, List.set_cons_zero, List.set_cons_succ])
              refine wpAnyH_take (i := 8) (oi := _) (v := ?_) rfl (by kernel_rfl) (by kernel_rfl) (by kernel_rfl) (fun _ _ _ h => h) (Or.inl ⟨by rfl, ?_⟩) (by assumption) ?_
              rotate_left
              · (intro w hSw; (try dsimp only at hSw); go_simp; (try with_reducible rfl))
              (try simp only [Act.put, List.setIfInBounds_toArray, List.set_cons_zero, List.set_cons_succ])
              refine wpAnyH_take (i := 9) (oi := _) (v := ?_) rfl (by kernel_rfl) (by kernel_rfl) (by kernel_rfl) (fun _ _ _ h => h) (Or.inl ⟨by rfl, ?_⟩) (by assumption) ?_
              rotate_left
              · (intro w hSw; (try dsimp only at hSw); go_simp; (try with_reducible rfl))
              (try simp only [Act.put, List.setIfInBounds_toArray, List.set_cons_zero, List.set_cons_succ])
              refine wpAnyH_take (i := 10) (oi := _) (v := ?_) rfl (by kernel_rfl) (by kernel_rfl) (by kernel_rfl) (fun _ _ _ h => h) (Or.inl ⟨by rfl, ?_⟩) (by assumption) ?_
              rotate_left
              · (intro w hSw; (try dsimp only at hSw); go_simp; (try with_reducible rfl))
              (try simp only [Act.put, List.setIfInBounds_toArray, List.set_cons_zero, List.set_cons_succ])
              refine wpAnyH_ready (rs := [4]) (by kernel_rfl) (by simp) ?_
              refine AllReadyH.cons (o := _) rfl (fun K hK => ?_) AllReadyH.nil
              go_simp
              ((go_at_call 37; refine (l13Put_c b0 o0 ys.length c0 (w.heap.size + 1) ys _ _ (own_up R0.out (by go_grown)) (by (try simp); omega) (by omega)).mono ?_; rintro e w1 ⟨A1, c1, rfl, r1, g1⟩; obtain ⟨b1, o1, rfl⟩ := rdN_some (Rd.of_own r1) hq1; have R1 := Lib.hid r1; have X1 := Lib.hid (X0.out.up (below_via (by go_grown) g1)); have G1 : Hid (Below wi.heap.size wi w1) := Lib.hid (below_via (by go_grown) g1); have s1 := g1.size; (try simp at s1); have x13 := X1.out.cell (i := 3) rfl; clear r1 g1))
              (try go_wp2_with fail)
              refine hK.out _ _ ?_ (fun hHeld => ?_)
              · ((try dsimp only); (simp [go_sem, *]))
              clear hK K
              (try simp only [Act.put, List.setIfInBounds_toArray, List.set_cons_zero, List.set_cons_succ])
              refine wpAnyH_ready (rs := [7]) (by kernel_rfl) (by simp) ?_
              refine AllReadyH.cons (o := _) rfl (fun K hK => ?_) AllReadyH.nil
              go_simp
              ((go_at_call 37; refine (l13Put_c b1 o1 _ c1 (w.heap.size + 1) _ _ _ R1.out (by omega) (by omega)).mono ?_; rintro e w2 ⟨A2, c2, rfl, r2, g2⟩; obtain ⟨b2, o2, rfl⟩ := rdN_some (Rd.of_own r2) hq2; have R2 := Lib.hid r2; have X2 := Lib.hid (X1.out.up g2); have G2 := Lib.hid (below_via G1.out g2); have s2 := g2.size; (try simp at s2); have x23 := X2.out.cell (i := 3) rfl; clear r2 g2))
              (try go_wp2_with fail)
              refine hK.out _ _ ?_ (fun hHeld => ?_)
              · ((try dsimp only); (simp [go_sem, *]))
              clear hK K
              (try simp only [Act.put, List.setIfInBounds_toArray, List.set_cons_zero, List.set_cons_succ])
              refine wpAnyH_ready (rs := [11]) (by kernel_rfl) (by simp) ?_
              refine AllReadyH.cons (o := _) rfl (fun K hK => ?_) AllReadyH.nil
              go_simp
              ((go_at_call 37; refine (l13Put_c b2 o2 _ c2 (w.heap.size + 1) _ _ _ R2.out (by omega) (by omega)).mono ?_; rintro e w3 ⟨A3, c3, rfl, r3, g3⟩; obtain ⟨b3, o3, rfl⟩ := rdN_some (Rd.of_own r3) hq3; have R3 := Lib.hid r3; have X3 := Lib.hid (X2.out.up g3); have G3 := Lib.hid (below_via G2.out g3); have s3 := g3.size; (try simp at s3); have x33 := X3.out.cell (i := 3) rfl; clear r3 g3))
              (try go_wp2_with fail)
              refine hK.out _ _ ?_ (fun hHeld => ?_)
              · ((try dsimp only); (simp [go_sem, *]))
              clear hK K
              (try simp only [Act.put, List.setIfInBounds_toArray, List.set_cons_zero, List.set_cons_succ])
              refine wpAnyH_take (i := 12) (oi := _) (v := ?_) rfl (by kernel_rfl) (by kernel_rfl) (by kernel_rfl) (fun _ _ _ h => h) (Or.inl ⟨by rfl, ?_⟩) (by assumption) ?_
              rotate_left
              · (intro w hSw; (try dsimp only at hSw); go_simp; (try with_reducible rfl))
              (try simp only [Act.put, List.setIfInBounds_toArray, List.set_cons_zero, List.set_cons_succ])
              refine wpAnyH_done (by kernel_rfl) ?_ _
              (try simp only [List.getElem_toArray, List.getElem_cons_zero, List.getElem_cons_succ, List.setIfInBounds_toArray, List.set_cons_zero, List.set_cons_succ])
              have e4 : putI (putI (putI ys (t.x - 1)) t.x) (t.x + 1) = ((r.ts.take (m + 1)).flatMap (rawT f)).foldl putI zs := by rw [HTK.out, HRT.out, HY.out]; rfl
              generalize putI (putI (putI ys (t.x - 1)) t.x) (t.x + 1) = z4 at *
              have HZ4 := Lib.hid e4
              clear e4 HY
              have FX := Lib.hid (HX.out.up G3.out)
              have FR := Lib.hid (XR.out.up G3.out)
              have FF := Lib.hid (below_via HF'.out G3.out)
              have sG := G3.out.size
              go_wp2
              go_roundg gb
              case measure => omega
              case rel =>
                go_light
                exact ⟨m + 1, b3, o3, c3, z4, by omega, by go_num, rfl, hq3, by omega, HZ4, R3, FR, FX, FF, by omega⟩
            · have f2 : (t.f == f) = false := by simpa using hft
              have HRT := Lib.hid (rawT_no hft)
              clear hft
              go_wp2_with fail
              go_roundg gb
              case measure => omega
              case rel =>
                go_light
                refine ⟨m + 1, b0, o0, c0, ys, by omega, by go_num, rfl, hyp, by omega, ?_, Lib.hid (own_up R0.out (by go_grown)), Lib.hid (XR.out.alloc _), Lib.hid (HX.out.alloc _), Lib.hid (show Below w.heap.size w _ from below_via HF'.out (by go_grown)), by simp; omega⟩
                show _ = _
                rw [HTK.out, HRT.out, HY.out]; rfl
end Go.Proofs.YtmfienlceobfeaaDoor
