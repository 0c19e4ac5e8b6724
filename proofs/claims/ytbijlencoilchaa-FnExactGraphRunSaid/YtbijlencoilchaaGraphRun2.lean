/- GraphRun of the reference. Conditions: its own. -/
import Derived.Test.YtbijlencoilchaaGraphRun
import Derived.Test.YtbijlencoilchaaTest2
namespace Go.Proofs.Ytbijlencoilchaa
open Go.RowKit
set_option linter.unusedVariables false
theorem specGraphRun_c (A : Option Addr) (n c : Nat) (ps : List Pt) (num : Int) (B : Option Addr) (m d : Nat) (xs : List Int) (w : World) (hr : Rd w w.heap.size 7 A n (pts ps)) (hn : n ≤ 9223372036854775807)
    (hq : Rd w w.heap.size 1 B m (ints xs)) (hm : m ≤ 9223372036854775807) :
    Calls Try.prog 30 #[.slice A n c, .agg #[.int .i64 num, .slice B m d]] w (RetB (.int .i64 (graphRunV ps num xs)) w) := by
  have HR := Lib.hid hr
  have HQ := Lib.hid hq
  have hl : ps.length = n := by have := hr.1; rw [pts_len] at this; omega
  have HL := Lib.hid hl
  clear hr hq hl
  by_cases hg : graphB ps = true
  · by_cases hc : callB num xs = true
    · have hV : graphRunV ps num xs = runAt ps num xs (ps.length - 1) := by simp [graphRunV, hg, hc]
      have HV := Lib.hid hV
      have HG := Lib.hid hg
      have HM : Hid (m = 4) := by have h1 := HQ.out.len1; rw [ints_len] at h1; have h2 := callB_len hc; show _ = _; omega
      clear hV
      obtain ⟨hl1, hl2⟩ : 1 ≤ n ∧ n ≤ 120 := by have := graphB_len hg; have := HL.out; omega
      obtain ⟨l, rfl⟩ : ∃ l, n = l + 1 := ⟨n - 1, by omega⟩
      go_enter Try.func30, Try.ntmps30
      go_wp2_with (go_at_call 21; refine (specGraphOk_c _ _ c ps _ (HR.out.upB (by go_grown) (by go_size)) hn).mono ?_; rintro e w1 ⟨rfl, b1⟩; obtain ⟨gc1, gf1⟩ := below_get b1; (try simp only [heap_drew, World.size_alloc, World.size_setCell] at gc1 gf1); have s1 := below_via (w := w) (by go_grown) b1; have H1 := s1; have hs1 := b1.size; (try simp at hs1); have z1_0 : w.heap.size < w1.heap.size := (by omega); clear b1)
      go_wp2_with (go_at_call 16; refine (specCallOk_c num B m d xs _ ((HQ.out.up s1).upB (by go_grown) (by go_size)) hm).mono ?_; rintro e w2 ⟨rfl, b2⟩; obtain ⟨gc2, gf2⟩ := below_get b2; (try simp only [heap_drew, World.size_alloc, World.size_setCell] at gc2 gf2); have s2 := below_via (w := w1) (by go_grown) b2; have H2 := below_via H1 s2; have hs2 := b2.size; (try simp at hs2); have z2_0 : w.heap.size < w2.heap.size := (by omega); clear b2; have q1 := s2.cell (p := ⟨w.heap.size, 0, none⟩) z1_0; have q2 := s2.cell (p := ⟨w.heap.size, 1, none⟩) z1_0)
      have q1' : w2.cell? ⟨w.heap.size, 0, none⟩ = some (.int .i64 num) := by rw [q1, gc1 _ _ (by omega)]; simp
      have q2' : w2.cell? ⟨w.heap.size, 1, none⟩ = some (.slice B m d) := by rw [q2, gc1 _ _ (by omega)]; simp
      clear gc1 gf1 gc2 gf2 q1 q2
      obtain ⟨b, off, rfl, hbz, _⟩ := HR.out.2 (by omega)
      go_loopg [5] l (fun k i wr => i = .int .i64 k ∧ k ≤ l ∧ Hid (runAt ps num xs k = runAt ps num xs l) ∧ wr.cell? ⟨w.heap.size, 0, none⟩ = some (.int .i64 num) ∧ wr.cell? ⟨w.heap.size, 1, none⟩ = some (.slice B m d) ∧ Below w.heap.size w wr ∧ w.heap.size < wr.heap.size)
      case atStart =>
        exact ⟨rfl, Nat.le_refl _, by simp [Hid], q1', q2', H2, z2_0⟩
      case round =>
        obtain ⟨rfl, hk, HV2, r1, r2, hbel, hwr⟩ := hrel
        have hbs := hbel.size
        have hX := (HR.out.below hbel).pt (show gk < l + 1 by omega)
        obtain ⟨b', off', p, e1, hb', hp, _, c0, c1, c2, c3, c4, c5, c6⟩ := hX
        simp only [Option.some.injEq, Addr.mk.injEq, and_true] at e1
        obtain ⟨rfl, rfl⟩ := e1
        have HP := Lib.hid hp
        clear hp
        have hbr : b < wr.heap.size := by omega
        by_cases h0 : p.op = 0
        · have h0' : decide (0 < p.op) = false := by simp [h0]
          have H0 := Lib.hid h0
          clear h0
          go_wp2
          go_returns
          go_light
          refine ⟨retv ?_, hbel⟩
          show Value.int .i64 p.v = _
          rw [HV.out, HL.out, Nat.add_sub_cancel, ← HV2.out, runAt_leaf HP.out H0.out]
        · obtain ⟨ho, hf0, hf4, hm1, hm2, hx1, hx2, hy1, hy2, hn1, hn2⟩ := ptB_look (graphB_at HG.out HP.out) h0
          have h0' : decide (0 < p.op) = true := by simp; omega
          have hne : wr.heap.size ≠ w.heap.size := by omega
          have H0 := Lib.hid h0
          have HO := Lib.hid ho
          clear h0 ho
          go_wp2
          go_region_held3 (fun w' => w'.cell? ⟨wr.heap.size, 0, none⟩ = some (.int .i64 p.v) ∧ w'.cell? ⟨wr.heap.size, 1, none⟩ = some (.int .i64 p.f) ∧ w'.cell? ⟨wr.heap.size, 2, none⟩ = some (.int .i64 p.m) ∧ w'.cell? ⟨wr.heap.size, 3, none⟩ = some (.int .i64 p.op) ∧ w'.cell? ⟨wr.heap.size, 4, none⟩ = some (.int .i64 p.x) ∧ w'.cell? ⟨wr.heap.size, 5, none⟩ = some (.int .i64 p.y) ∧ w'.cell? ⟨wr.heap.size, 6, none⟩ = some (.int .i64 p.n) ∧ w'.cell? ⟨w.heap.size, 0, none⟩ = some (.int .i64 num) ∧ w'.cell? ⟨w.heap.size, 1, none⟩ = some (.slice B m d)) (simp [go_sem, *])
            (first
             | (go_at_call 58; refine (specField_c num p.f B m d xs _ ((HQ.out.up hbel).upB (by go_grown) (by go_size)) HM.out hf0 hf4).mono ?_; rintro e w3 ⟨rfl, b3⟩; obtain ⟨gc3, gf3⟩ := below_get b3; (try simp only [heap_drew, World.size_alloc, World.size_setCell] at gc3 gf3); have hb3 := below_on hbel (by go_grown) b3; have s3 := below_via (w := wr) (by go_grown) b3; have hs3 := b3.size; simp at hs3; clear b3))
          have k1 : w3.cell? ⟨w.heap.size, 0, none⟩ = some (.int .i64 num) := (s3.cell (p := ⟨w.heap.size, 0, none⟩) hwr).trans r1
          have k2 : w3.cell? ⟨w.heap.size, 1, none⟩ = some (.slice B m d) := (s3.cell (p := ⟨w.heap.size, 1, none⟩) hwr).trans r2
          have ey : Value.int .i64 p.y = .int .i64 (p.y.toNat : Int) := by rw [Int.toNat_of_nonneg hy1]
          have en : Value.int .i64 p.n = .int .i64 (p.n.toNat : Int) := by rw [Int.toNat_of_nonneg hn1]
          have EY := Lib.hid ey
          have EN := Lib.hid en
          clear ey en
          go_wp2
          all_goals have ho := HO.out
          all_goals have ey := EY.out
          all_goals have en := EN.out
          all_goals (first
            | (exfalso; go_light; omega)
            | (go_roundg p.y.toNat
               case measure => omega
               case rel =>
                 go_light
                 refine ⟨ey, by omega, ?_, k1, k2, hb3, by omega⟩
                 have hL : lookB p num xs = true := by have ho := HO.out; have h0 := H0.out; clear HO H0 HP HV HV2 HG; unfold lookB holdsB; simp_all
                 show _ = _
                 rw [← HV2.out, runAt_look HG.out HP.out H0.out, if_pos hL])
            | (go_roundg p.n.toNat
               case measure => omega
               case rel =>
                 go_light
                 refine ⟨en, by omega, ?_, k1, k2, hb3, by omega⟩
                 have hL : lookB p num xs = false := by have ho := HO.out; have h0 := H0.out; clear HO H0 HP HV HV2 HG; unfold lookB holdsB; simp_all
                 show _ = _
                 rw [← HV2.out, runAt_look HG.out HP.out H0.out, if_neg (by rw [hL]; simp)]))
    · have hc : callB num xs = false := by simpa using hc
      go_enter Try.func30, Try.ntmps30
      go_wp2_with (go_at_call 21; refine (specGraphOk_c A n c ps _ (HR.out.upB (by go_grown) (by go_size)) hn).mono ?_; rintro e w1 ⟨rfl, b1⟩; obtain ⟨gc1, gf1⟩ := below_get b1; (try simp only [heap_drew, World.size_alloc, World.size_setCell] at gc1 gf1); have s1 := below_via (w := w) (by go_grown) b1; have H1 := s1; have hs1 := b1.size; (try simp at hs1); have z1_0 : w.heap.size < w1.heap.size := (by omega); clear b1)
      go_wp2_with (go_at_call 16; refine (specCallOk_c num B m d xs _ ((HQ.out.up s1).upB (by go_grown) (by go_size)) hm).mono ?_; rintro e w2 ⟨rfl, b2⟩; obtain ⟨gc2, gf2⟩ := below_get b2; (try simp only [heap_drew, World.size_alloc, World.size_setCell] at gc2 gf2); have s2 := below_via (w := w1) (by go_grown) b2; have H2 := below_via H1 s2; have hs2 := b2.size; (try simp at hs2); have z2_0 : w.heap.size < w2.heap.size := (by omega); clear b2)
      go_returns
      exact ⟨by simp [graphRunV, hc], by go_grown⟩
  · have hg : graphB ps = false := by simpa using hg
    go_enter Try.func30, Try.ntmps30
    go_wp2_with (go_at_call 21; refine (specGraphOk_c A n c ps _ (HR.out.upB (by go_grown) (by go_size)) hn).mono ?_; rintro e w1 ⟨rfl, b1⟩; obtain ⟨gc1, gf1⟩ := below_get b1; (try simp only [heap_drew, World.size_alloc, World.size_setCell] at gc1 gf1); have s1 := below_via (w := w) (by go_grown) b1; have H1 := s1; have hs1 := b1.size; (try simp at hs1); have z1_0 : w.heap.size < w1.heap.size := (by omega); clear b1)
    go_returns
    exact ⟨by simp [graphRunV, hg], by go_grown⟩
end Go.Proofs.Ytbijlencoilchaa
