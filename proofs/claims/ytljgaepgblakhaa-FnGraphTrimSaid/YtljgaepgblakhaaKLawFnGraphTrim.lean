/- FnGraphTrim: for all drawn bytes the law returns true: what makes no difference can go out of a graph. No condition. -/
import Derived.Test.YtljgaepgblakhaaJf2a545681a
import Derived.Test.YtljgaepgblakhaaImplTrim
import Derived.Test.YtljgaepgblakhaaWgGraph
import Derived.Test.YtljgaepgblakhaaOpen
import Derived.Test.YtljgaepgblakhaaOpen2
namespace Go.Proofs.Ytljgaepgblakhaa
set_option linter.unusedSimpArgs false
open Go.ChangeShapes Go.WideShapes Go.ChangeAt Go.RowKit
set_option linter.unusedVariables false
set_option linter.unnecessarySimpa false
/-- What both sides' trimming of a graph comes to. -/
theorem trim_y (g : List Pt) (hn : g.length ≤ 1000) : ∃ (R : List Pt), R.length ≤ 120 ∧ (graphB g = false → R = []) ∧
    (graphB g = true → graphB R = true ∧ R.length ≤ g.length ∧ (∀ num zs, graphRunV R num zs = graphRunV g num zs) ∧ (∀ (k : Nat) (p : Pt), R[k]? = some p → 0 < p.op → p.y ≠ p.n) ∧ (∀ (k j : Nat) (p q : Pt), j < k → R[k]? = some p → R[j]? = some q → p ≠ q) ∧
      (∀ A c W, Rd W W.heap.size 7 A R.length (pts R) → Calls Try.prog 5 #[.slice A R.length c] W (RetOwn 29 7 R.length (pts R) W))) ∧
    (∀ A c W, Rd W W.heap.size 7 A g.length (pts g) → Calls Try.prog 7 #[.slice A g.length c] W (RetOwn 29 7 R.length (pts R) W)) ∧
    (∀ A c W, Rd W W.heap.size 7 A g.length (pts g) → Calls Try.prog 5 #[.slice A g.length c] W (RetOwn 29 7 R.length (pts R) W)) := by
  refine ⟨if graphB g = true then trimN g.length g (g.length - 1) else [], ?_, ?_, ?_, fun A c W h => specGraphTrim_c A _ c g W h (by omega), fun A c W h => graphTrim_c A _ c g W h (by omega)⟩
  · split
    · rename_i h
      obtain ⟨h1, h2⟩ := graphB_len h
      exact (trimN_neat (f := g.length) (GP.of_graph h) h2 (show g.length - 1 < g.length by omega) (by omega)).1.max
    · simp
  · intro h
    rw [h]; rfl
  · intro h
    rw [if_pos h]
    obtain ⟨h1, h2⟩ := graphB_len h
    obtain ⟨N, hl, hs⟩ := trimN_neat (f := g.length) (GP.of_graph h) h2 (show g.length - 1 < g.length by omega) (by omega)
    generalize trimN g.length g (g.length - 1) = R at *
    refine ⟨N.ok, by omega, fun num zs => ?_, fun k p hp h0 => N.ns p (List.mem_of_getElem? hp) (by omega), fun k j p q hjk hp hq e => ?_, fun A c W hW => ?_⟩
    · unfold graphRunV
      rw [N.ok, h, hs]
    · subst e
      obtain ⟨hk, ek⟩ := List.getElem?_eq_some_iff.1 hp
      obtain ⟨hj, ej⟩ := List.getElem?_eq_some_iff.1 hq
      exact List.pairwise_iff_getElem.1 N.nd j k hj hk hjk (by rw [ej, ek])
    · have := graphTrim_c A R.length c R W hW (by have := N.max; omega)
      rw [if_pos N.ok, neat_trim N N.pos] at this
      exact this
set_option maxHeartbeats 8000000 in
set_option maxRecDepth 100000 in
theorem fnGraphTrim_law (A : Option Addr) (n c : Nat) (xs : List Int) (B : Option Addr) (m d : Nat) (ys : List Int) (w : World) (hr : Rd w w.heap.size 1 A n (u8s xs)) (hx : ∀ x ∈ xs, 0 ≤ x ∧ x ≤ 255) (hc : n ≤ c) (hc2 : c ≤ 9223372036854775807)
    (hq : Rd w w.heap.size 1 B m (u8s ys)) (hy : ∀ x ∈ ys, 0 ≤ x ∧ x ≤ 255) (hd : m ≤ d) (hd2 : d ≤ 9223372036854775807) :
    Calls Try.prog 3 #[.slice A n c, .slice B m d] w (RetB (.bool true) w) := by
  have HR := Lib.hid hr
  have HX := Lib.hid hx
  have HQ := Lib.hid hq
  have HY := Lib.hid hy
  clear hr hx hq hy
  by_cases h1 : n ≤ 1048576
  · have k1 : decide (1048576 < (n : Int)) = false := by simp; omega
    by_cases h2 : m ≤ 1048576
    · have k2 : decide (1048576 < (m : Int)) = false := by simp; omega
      go_enter Try.func3, Try.ntmps3
      (go_wp2_with fail); (go_at_call 4; refine (drawGraphTrim_c A n c xs _ (HR.out.upB (by go_grown) (by go_size)) HX.out hc hc2).mono ?_; rintro e w1 ⟨PA, pn, pc, ps, rfl, o1, hpn, b1⟩; have RP := Lib.hid (Rd.of_own o1); clear o1; obtain ⟨gc1, gf1⟩ := below_get b1; (try simp only [heap_drew, World.size_alloc, World.size_setCell] at gc1 gf1); have s1 := below_via (w := w) (by go_grown) b1; have H1 := s1; have hs1 := b1.size; (try simp at hs1); clear b1)
      have hl1 : ps.length = pn := by have := RP.out.1; rw [pts_len] at this; omega
      subst hl1
      obtain ⟨R, hRl, hno, hyes, hTS, hTI⟩ := trim_y ps (by omega)
      have HGP := Lib.hid (fun c W h => graphOk_c PA ps.length c ps W h (by omega))
      have HSP := Lib.hid (fun c W h => specGraphOk_c PA ps.length c ps W h (by omega))
      obtain ⟨z, hz⟩ : ∃ z, R.length = z := ⟨_, rfl⟩
      rw [hz] at hTS hTI hRl hyes
      have HZ := Lib.hid hz
      have HTS := Lib.hid hTS
      have HTI := Lib.hid hTI
      have HNO := Lib.hid hno
      have HYES := Lib.hid hyes
      clear hTS hTI hno hyes hz
      generalize hgb : graphB ps = gb at *
      (go_wp2_with fail); (go_at_call 5; refine (HTI.out _ _ _ (RP.out.upB (by go_grown) (by go_size))).mono ?_; rintro e w2 ⟨A2, c2, rfl, o2, b2⟩; have R2 := Lib.hid (Rd.of_own o2); clear o2; obtain ⟨gc2, gf2⟩ := below_get b2; (try simp only [heap_drew, World.size_alloc, World.size_setCell] at gc2 gf2); have s2 := below_via (w := w1) (by go_grown) b2; have H2 := below_via H1 s2; have hs2 := b2.size; (try simp at hs2); clear b2)
      (go_wp2_with fail); (go_at_call 7; refine (HTS.out _ _ _ ((RP.out.up s2).upB (by go_grown) (by go_size))).mono ?_; rintro e w3 ⟨A3, c3, rfl, o3, b3⟩; have R3 := Lib.hid (Rd.of_own o3); clear o3; obtain ⟨gc3, gf3⟩ := below_get b3; (try simp only [heap_drew, World.size_alloc, World.size_setCell] at gc3 gf3); have s3 := below_via (w := w2) (by go_grown) b3; have H3 := below_via H2 s3; have hs3 := b3.size; (try simp at hs3); clear b3)
      (go_wp2_with fail); (go_at_call 6; refine (wgGraph_c A2 A3 z c2 c3 R _ ((R2.out.up s3).upB (by go_grown) (by go_size)) (R3.out.upB (by go_grown) (by go_size)) (by omega)).mono ?_; rintro e w4 ⟨rfl, b4⟩; obtain ⟨gc4, gf4⟩ := below_get b4; (try simp only [heap_drew, World.size_alloc, World.size_setCell] at gc4 gf4); have s4 := below_via (w := w3) (by go_grown) b4; have H4 := below_via H3 s4; have hs4 := b4.size; (try simp at hs4); clear b4)
      (go_wp2_with fail); (go_at_call 8; refine (HGP.out _ _ ((((RP.out.up s2).up s3).up s4).upB (by go_grown) (by go_size))).mono ?_; rintro e w5 ⟨rfl, b5⟩; obtain ⟨gc5, gf5⟩ := below_get b5; (try simp only [heap_drew, World.size_alloc, World.size_setCell] at gc5 gf5); have s5 := below_via (w := w4) (by go_grown) b5; have H5 := below_via H4 s5; have hs5 := b5.size; (try simp at hs5); clear b5)
      (go_wp2_with fail); (go_at_call 9; refine (HSP.out _ _ (((((RP.out.up s2).up s3).up s4).up s5).upB (by go_grown) (by go_size))).mono ?_; rintro e w6 ⟨rfl, b6⟩; obtain ⟨gc6, gf6⟩ := below_get b6; (try simp only [heap_drew, World.size_alloc, World.size_setCell] at gc6 gf6); have s6 := below_via (w := w5) (by go_grown) b6; have H6 := below_via H5 s6; have hs6 := b6.size; (try simp at hs6); clear b6)
      cases gb with
      | false =>
        have hz0 : z = 0 := by rw [← HZ.out, HNO.out rfl]; rfl
        clear HNO HYES HZ
        subst hz0
        (go_wp2_with fail); (go_at_call 9; refine (HSP.out _ _ ((((((RP.out.up s2).up s3).up s4).up s5).up s6).upB (by go_grown) (by go_size))).mono ?_; rintro e w7 ⟨rfl, b7⟩; obtain ⟨gc7, gf7⟩ := below_get b7; (try simp only [heap_drew, World.size_alloc, World.size_setCell] at gc7 gf7); have s7 := below_via (w := w6) (by go_grown) b7; have H7 := below_via H6 s7; have hs7 := b7.size; (try simp at hs7); clear b7)
        go_wp2
        go_returns
        exact ⟨rfl, by go_grown⟩
      | true =>
        obtain ⟨hRb, hRg, hrun, hns, hnd, hTR⟩ := HYES.out rfl
        have HRUN := Lib.hid hrun
        have HNS := Lib.hid hns
        have HND := Lib.hid hnd
        have HTR := Lib.hid hTR
        clear HNO HYES hrun hns hnd hTR
        (go_wp2_with fail); (go_at_call 9; refine (HSP.out _ _ ((((((RP.out.up s2).up s3).up s4).up s5).up s6).upB (by go_grown) (by go_size))).mono ?_; rintro e w7 ⟨rfl, b7⟩; obtain ⟨gc7, gf7⟩ := below_get b7; (try simp only [heap_drew, World.size_alloc, World.size_setCell] at gc7 gf7); have s7 := below_via (w := w6) (by go_grown) b7; have H7 := below_via H6 s7; have hs7 := b7.size; (try simp at hs7); clear b7)
        go_wp2_with fail
        have RT0 := Lib.hid (show Rd w7 w7.heap.size 7 A2 z (pts R) from (((((((R2.out.up s3).up s4).up s5).up s6).up s7).upB (by go_grown) (by go_size))))
        go_loopg [7] z (fun gk i wr => ∃ (k : Nat), gk + k = z ∧ i = .int .i64 k ∧ Hid (Below w7.heap.size w7 wr))
        case atStart => exact ⟨0, by omega, rfl, Lib.hid (Below.refl _ _)⟩
        case round =>
          obtain ⟨k, hgk, rfl, HB⟩ := hrel
          have hbs := HB.out.size
          by_cases hk : gk = 0
          · subst hk
            obtain rfl : k = z := by omega
            have H9 := Lib.hid (below_via H7 HB.out)
            have RT9 := Lib.hid (RT0.out.upB HB.out hbs)
            have RP9 := Lib.hid ((show Rd w7 w7.heap.size 7 PA ps.length (pts ps) from ((((((((RP.out.up s2).up s3).up s4).up s5).up s6).up s7).upB (by go_grown) (by go_size)))).upB HB.out hbs)
            have HQ9 := Lib.hid (HQ.out.upB H9.out H9.out.size)
            rename World => w9
            clear s7 H7 hs7 HB hbs RT0 R2 R3 RP
            have H9 := H9.out
            (go_wp2_with fail); (go_at_call 10; refine (drawGraphRun_c B m d ys _ HQ9.out HY.out hd hd2).mono ?_; rintro e w10 ⟨v10, num, CA, cn, cc, zs, rfl, rc, hcn, b10⟩; have RC := Lib.hid rc; clear rc; obtain ⟨gc10, gf10⟩ := below_get b10; (try simp only [heap_drew, World.size_alloc, World.size_setCell] at gc10 gf10); have s10 := below_via (w := w9) (by go_grown) b10; have H10 := below_via H9 s10; have hs10 := b10.size; (try simp at hs10); clear b10)
            have HG1 := Lib.hid (fun W h hq' => graphRun_c A2 k c2 R num CA cn cc zs W h (by omega) hq' (by omega))
            have HG2 := Lib.hid (fun W h hq' => graphRun_c PA ps.length pc ps num CA cn cc zs W h (by omega) hq' (by omega))
            rw [HRUN.out num zs] at HG1
            generalize graphRunV ps num zs = gv at *
            have HGO := Lib.hid (fun W h => graphOk_c A2 k c2 R W h (by omega))
            rw [hRb] at HGO
            have k9 : decide ((k : Int) ≤ (ps.length : Int)) = true := by simp; omega
            go_wp2_with fail
            go_region_held3 (fun w' => w'.cell? ⟨w10.heap.size, 0, none⟩ = some (.int .i64 num) ∧ w'.cell? ⟨w10.heap.size, 1, none⟩ = some (.slice CA cn cc)) (simp [go_sem, *])
              (first
               | (go_at_call 8; refine (HGO.out _ ((RT9.out.up s10).upB (by go_grown) (by go_size))).mono ?_; rintro e w11 ⟨rfl, b11⟩; obtain ⟨gc11, gf11⟩ := below_get b11; (try simp only [heap_drew, World.size_alloc, World.size_setCell] at gc11 gf11); have s11 := below_via (w := w10) (by go_grown) b11; have H11 := below_via H10 s11; have hs11 := b11.size; (try simp at hs11); have z11_0 : w10.heap.size < w11.heap.size := (by omega); clear b11)
               | (go_at_call 11; refine (((fun _ => HG2.out _) s12) ((((RP9.out.up s10).up s11).up s12).upB (by go_grown) (by go_size)) (((RC.out.up s11).up s12).upB (by go_grown) (by go_size))).mono ?_; rintro e w13 ⟨rfl, b13⟩; obtain ⟨gc13, gf13⟩ := below_get b13; (try simp only [heap_drew, World.size_alloc, World.size_setCell] at gc13 gf13); have s13 := below_via (w := w12) (by go_grown) b13; have H13 := below_via H12 s13; have hs13 := b13.size; (try simp at hs13); have z13_0 : w10.heap.size < w13.heap.size := (by omega); clear b13)
               | (go_at_call 11; refine (HG1.out _ (((RT9.out.up s10).up s11).upB (by go_grown) (by go_size)) ((RC.out.up s11).upB (by go_grown) (by go_size))).mono ?_; rintro e w12 ⟨rfl, b12⟩; obtain ⟨gc12, gf12⟩ := below_get b12; (try simp only [heap_drew, World.size_alloc, World.size_setCell] at gc12 gf12); have s12 := below_via (w := w11) (by go_grown) b12; have H12 := below_via H11 s12; have hs12 := b12.size; (try simp at hs12); have z12_0 : w10.heap.size < w12.heap.size := (by omega); clear b12)
               | (go_at_call 5; refine (HTR.out A2 c2 _ (((((RT9.out.up s10).up s11).up s12).up s13).upB (by go_grown) (by go_size))).mono ?_; rintro e w14 ⟨A14, c14, rfl, o14, b14⟩; have R14 := Lib.hid (Rd.of_own o14); clear o14; obtain ⟨gc14, gf14⟩ := below_get b14; (try simp only [heap_drew, World.size_alloc, World.size_setCell] at gc14 gf14); have s14 := below_via (w := w13) (by go_grown) b14; have H14 := below_via H13 s14; have hs14 := b14.size; (try simp at hs14); have z14_0 : w10.heap.size < w14.heap.size := (by omega); clear b14)
               | (go_at_call 6; refine (wgGraph_c A14 A2 k c14 c2 R _ (R14.out.upB (by go_grown) (by go_size)) ((((((RT9.out.up s10).up s11).up s12).up s13).up s14).upB (by go_grown) (by go_size)) (by omega)).mono ?_; rintro e w15 ⟨rfl, b15⟩; obtain ⟨gc15, gf15⟩ := below_get b15; (try simp only [heap_drew, World.size_alloc, World.size_setCell] at gc15 gf15); have s15 := below_via (w := w14) (by go_grown) b15; have H15 := below_via H14 s15; have hs15 := b15.size; (try simp at hs15); have z15_0 : w10.heap.size < w15.heap.size := (by omega); clear b15))
            go_wp2
            go_returns
            exact ⟨rfl, by go_grown⟩
          · obtain ⟨G, rfl⟩ : ∃ j, gk = j + 1 := ⟨gk - 1, by omega⟩
            have RT := Lib.hid (RT0.out.upB HB.out hbs)
            have kz : decide (k < z) = true := by simp; omega
            obtain ⟨b, off, p, rfl, hb, hp, hpl, c0, c1, c2_, c3_, c4, c5, c6⟩ := RT.out.pt (show k < z by omega)
            have hs := HNS.out k p hp
            clear hp hpl
            by_cases hop : 0 < p.op
            · have q5 : decide (0 < p.op) = true := by simpa using hop
              have q6 : (p.y == p.n) = false := by simpa using hs hop
              clear hs
              go_wp2
              go_quiet (fail)
              go_wp2_with fail
              go_loopg [8] k (fun gk i wr => ∃ (j : Nat), gk + j = k ∧ i = .int .i64 j ∧ Hid (Below w7.heap.size w7 wr))
              case atStart => exact ⟨0, by omega, rfl, Lib.hid (below_dN HB.out _)⟩
              case round =>
                obtain ⟨j, hgj, rfl, HB2⟩ := hrel
                have RT2 := Lib.hid (RT0.out.upB (w' := wr) HB2.out (HB2.out.size))
                by_cases hj : gk = 0
                · subst hj
                  obtain rfl : j = k := by omega
                  go_wp2
                  go_roundg G
                  case measure => omega
                  case rel =>
                    go_light
                    exact ⟨j + 1, by omega, by go_num, HB2⟩
                · obtain ⟨G2, rfl⟩ : ∃ j, gk = j + 1 := ⟨gk - 1, by omega⟩
                  obtain ⟨b', off', p', e', hb', hp', hpl', a0, a1, a2, a3, a4, a5, a6⟩ := RT2.out.pt (show k < z by omega)
                  obtain ⟨b2, off2, q, e2, hb2, hq, hql, d0, d1, d2, d3, d4, d5, d6⟩ := RT2.out.pt (show j < z by omega)
                  injection e' with e'; injection e' with e1 e3; subst e1 e3
                  injection e2 with e2; injection e2 with e4 e5; subst e4 e5
                  have hne : p' ≠ q := HND.out k j p' q (by omega) hp' hq
                  clear hp' hq hpl' hql
                  have he : ∀ W, (Op.equalIn 10000 29 (.agg #[.int .i64 p'.v, .int .i64 p'.f, .int .i64 p'.m, .int .i64 p'.op, .int .i64 p'.x, .int .i64 p'.y, .int .i64 p'.n]) (.agg #[.int .i64 q.v, .int .i64 q.f, .int .i64 q.m, .int .i64 q.op, .int .i64 q.x, .int .i64 q.y, .int .i64 q.n])).run Try.prog W = .ok false W := fun W => by
                    have := eqPt_run p' q W
                    have hf : ptEq p' q = false := by
                      cases h : ptEq p' q with
                      | false => rfl
                      | true => exact absurd (ptEq_iff.1 h) hne
                    rw [hf] at this
                    exact this
                  clear hne
                  go_wp2
                  go_quiet (fail)
                  go_wp2
                  go_roundg G2
                  case measure => omega
                  case rel =>
                    go_light
                    exact ⟨j + 1, by omega, by go_num, Lib.hid (below_dN HB2.out _)⟩
            · have q5 : decide (0 < p.op) = false := by simpa using hop
              clear hs
              go_wp2
              go_quiet (fail)
              go_wp2_with fail
              go_loopg [8] k (fun gk i wr => ∃ (j : Nat), gk + j = k ∧ i = .int .i64 j ∧ Hid (Below w7.heap.size w7 wr))
              case atStart => exact ⟨0, by omega, rfl, Lib.hid (below_dN HB.out _)⟩
              case round =>
                obtain ⟨j, hgj, rfl, HB2⟩ := hrel
                have RT2 := Lib.hid (RT0.out.upB (w' := wr) HB2.out (HB2.out.size))
                by_cases hj : gk = 0
                · subst hj
                  obtain rfl : j = k := by omega
                  go_wp2
                  go_roundg G
                  case measure => omega
                  case rel =>
                    go_light
                    exact ⟨j + 1, by omega, by go_num, HB2⟩
                · obtain ⟨G2, rfl⟩ : ∃ j, gk = j + 1 := ⟨gk - 1, by omega⟩
                  obtain ⟨b', off', p', e', hb', hp', hpl', a0, a1, a2, a3, a4, a5, a6⟩ := RT2.out.pt (show k < z by omega)
                  obtain ⟨b2, off2, q, e2, hb2, hq, hql, d0, d1, d2, d3, d4, d5, d6⟩ := RT2.out.pt (show j < z by omega)
                  injection e' with e'; injection e' with e1 e3; subst e1 e3
                  injection e2 with e2; injection e2 with e4 e5; subst e4 e5
                  have hne : p' ≠ q := HND.out k j p' q (by omega) hp' hq
                  clear hp' hq hpl' hql
                  have he : ∀ W, (Op.equalIn 10000 29 (.agg #[.int .i64 p'.v, .int .i64 p'.f, .int .i64 p'.m, .int .i64 p'.op, .int .i64 p'.x, .int .i64 p'.y, .int .i64 p'.n]) (.agg #[.int .i64 q.v, .int .i64 q.f, .int .i64 q.m, .int .i64 q.op, .int .i64 q.x, .int .i64 q.y, .int .i64 q.n])).run Try.prog W = .ok false W := fun W => by
                    have := eqPt_run p' q W
                    have hf : ptEq p' q = false := by
                      cases h : ptEq p' q with
                      | false => rfl
                      | true => exact absurd (ptEq_iff.1 h) hne
                    rw [hf] at this
                    exact this
                  clear hne
                  go_wp2
                  go_quiet (fail)
                  go_wp2
                  go_roundg G2
                  case measure => omega
                  case rel =>
                    go_light
                    exact ⟨j + 1, by omega, by go_num, Lib.hid (below_dN HB2.out _)⟩
    · have k2 : decide (1048576 < (m : Int)) = true := by simp; omega
      go_enter Try.func3, Try.ntmps3
      go_wp2
      go_returns
      exact ⟨rfl, by go_grown⟩
  · have k1 : decide (1048576 < (n : Int)) = true := by simp; omega
    go_enter Try.func3, Try.ntmps3
    go_wp2
    go_returns
    exact ⟨rfl, by go_grown⟩
theorem fnGraphTrim_w (v0 v1 : Value) (W : World) (h0 : IsBytes W v0) (h1 : IsBytes W v1) : Calls Try.prog 3 #[v0, v1] W (RetB (.bool true) W) := by
  obtain ⟨A, n, c, xs, rfl, hr, hn, hcm, hx⟩ := h0
  obtain ⟨B, m, d, ys, rfl, hq, hm, hdm, hy⟩ := h1
  exact fnGraphTrim_law A n c xs B m d ys W hr hx hn (by unfold maxLen at hcm; omega) hq hy hm (by unfold maxLen at hdm; omega)
set_option maxRecDepth 100000 in
theorem fnGraphTrim_lifted (os : Os) (started : os.Started) (H : Type) (enc : TypeId × Value → H) :
    ReturnsInHanded {} Try.checked os 3 .any (Rows.fnGraphTrimSpec.pre6 enc Try.prog Try.f3 Rows.fnGraphTrimRow.domain false) (Rows.fnGraphTrimSpec.post enc Try.prog Try.f3 false true false false) := by
  refine returnsInHanded_of_change (C := Try.checked) own started (by kernel_rfl) Try.func3
    (ChangeSpec.witness6 (enc := enc) (C := Try.checked) false ⟨#[], #[.slice none 0 0, .slice none 0 0], []⟩ 8 (by kernel_rfl) (by kernel_rfl) (by kernel_rfl) (by kernel_rfl)) ?_
  intro W base args ds gs before hval0 hW hcnd _
  have hval : ∀ (j : Nat) t v, Try.f3.params[j]? = some t → args[j]? = some v → Value.okWide Try.prog W .any base t v := hval0
  have hW' := hW
  obtain ⟨p, q, hA0, hV, rfl, hfz, hnd⟩ := hW
  have hA : DataW.TrodAll enc Try.prog W 0 (fun _ => true) true Try.f3.params.toList args.toList ds p := hA0
  rw [Try.params3] at hA hval
  obtain ⟨v0, vs0, d0, ds0, p0, q0, hargs, rfl, rfl, h0, r0⟩ := trodAll_cons hA
  obtain ⟨v1, vs1, d1, ds1, p1, q1, rfl, rfl, rfl, h1, r1⟩ := trodAll_cons r0
  obtain ⟨rfl, rfl, rfl⟩ := trodAll_nil r1
  obtain rfl : args = #[v0, v1] := by cases args; simp_all
  obtain ⟨rfl, rfl⟩ := trodVars_none hV
  have k0 := h0
  have lt0 : ∀ x ∈ p0, x.block < W.heap.size := by obtain ⟨m, hm⟩ := k0; exact DataW.trod_lt m _ _ _ hm
  have o0 := open_Bytes (hval 0 22 v0 rfl rfl) h0
  have k1 := h1
  have lt1 : ∀ x ∈ p1, x.block < W.heap.size := by obtain ⟨m, hm⟩ := k1; exact DataW.trod_lt m _ _ _ hm
  have o1 := open_Bytes (hval 1 22 v1 rfl rfl) h1
  clear hA0 hval0
  refine (fnGraphTrim_w v0 v1 W o0 o1).mono fun e W' ⟨he, bel⟩ => ?_
  subst he
  exact ⟨_, rfl, _, _, _, [], _, [], hW', trodAll_mk1 (shut_bool Try.underlying4 _), (trodAll_cons_mk (Below.trod laidOut (by kernel_rfl) (of_decide_eq_true (by kernel_rfl)) k0 bel lt0) (trodAll_cons_mk (Below.trod laidOut (by kernel_rfl) (of_decide_eq_true (by kernel_rfl)) k1 bel lt1) trodAll_mk0)), rfl, bel.frame _, fun h => by cases h⟩

theorem fnGraphTrim_holds : Rows.FnGraphTrimSaid :=
  OpenClaim.holds_of_wide 3 Try.f3 rfl rfl rfl rfl rfl rfl rfl ⟨rfl, rfl, rfl, rfl, rfl⟩ rfl rfl rfl rfl rfl (by kernel_rfl) Try.func3 (by kernel_rfl)
    (of_decide_eq_true (by kernel_rfl)) (by unfold Func.isWrapper; rw [if_neg (of_decide_eq_false (by kernel_rfl))]; exact ⟨rfl, rfl⟩)
    (fun os started H enc _ => fnGraphTrim_lifted os started H enc)
#print axioms fnGraphTrim_holds
end Go.Proofs.Ytljgaepgblakhaa
