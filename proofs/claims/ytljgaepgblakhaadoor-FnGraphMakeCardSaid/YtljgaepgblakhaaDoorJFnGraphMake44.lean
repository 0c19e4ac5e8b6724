/- The program's graph of a policy. Conditions: each contract's own. -/
import Derived.Test.YtljgaepgblakhaaDoorJFnGraphMake35
import Derived.Test.YtljgaepgblakhaaDoorJFnGraphMake43
namespace Go.Proofs.YtljgaepgblakhaaDoor
set_option linter.unusedSimpArgs false
open Go.RowKit
set_option linter.unusedVariables false
set_option linter.unnecessarySimpa false
theorem far_of_below {w W : World} (h : Below w.heap.size w W) (ok : Nat → Prop) : Far w W ok := ⟨h.os, h.tape, h.output, h.size, fun t ht _ => h.block t ht⟩
theorem pf_step {w w1 w2 : World} {L m : Nat} {v0 v1 : Value} (h : Far w w1 (putOk L m v0)) (n : NewOb w v0.ownBlock v1.ownBlock) (k : Far w1 w2 (putOk L m v1)) : Far w w2 (putOk L m v0) :=
  h.trans k (fun t ho ht => ⟨ho.1, ho.2.1, fun e => by
    rcases n t e with r | r
    · exact ho.2.2 r
    · omega⟩)
theorem PL.up {w w' : World} {base L m c : Nat} {A : Option Addr} {ps : List Pt} (h : PL w base L m A c ps) (hb : Below w.heap.size w w') : PL w' base L m A c ps := h.far (far_of_below hb (fun _ => True)) trivial trivial (fun _ _ => trivial)
theorem RetPut.pre {base L m : Nat} {v0 : Value} {ps : List Pt} {a : Int} {w W w' : World} {e : Ending} (h : RetPut base L m v0 ps a W e w') (hb : Below w.heap.size w W) : RetPut base L m v0 ps a w e w' := by
  obtain ⟨A, c, he, hp, hf, hn⟩ := h
  exact ⟨A, c, he, hp, (far_of_below hb _).trans hf (fun t ho _ => ho), fun b hb' => (hn b hb').imp id (fun x => Nat.le_trans hb.size x)⟩
theorem PL.lts {w : World} {base L m c : Nat} {A : Option Addr} {ps : List Pt} (h : PL w base L m A c ps) : L < w.heap.size ∧ m < w.heap.size := by
  obtain ⟨D, hm, _⟩ := h.map
  exact ⟨h.blk.lt, hm.lt⟩
theorem lookOf_c (f m op x y n : Int) (g : Nat) (w : World) (hg : Blk w g 3 [.int .i64 y, .int .i64 n]) :
    Calls Tryd.prog 133 #[.int .i64 f, .int .i64 m, .int .i64 op, .int .i64 x, .slice (some ⟨g, 0, none⟩) 2 2] w (RetB (ptV ⟨0, f, m, op, x, y, n⟩) w) := by
  have c0 := hg.cell (i := 0) rfl
  have c1 := hg.cell (i := 1) rfl
  have hlt := hg.lt
  clear hg
  unfold ptV
  go_enter Tryd.func133, Tryd.ntmps133
  go_wp2
  go_region
  go_wp2
  refine bodyPost_ret (v := .agg #[.int .i64 0, .int .i64 f, .int .i64 m, .int .i64 op, .int .i64 x, .int .i64 y, .int .i64 n]) (by simp [results, Tryd.results133, go_sem]) rfl ?_
  go_light
  exact ⟨rfl, by go_grown⟩
set_option maxHeartbeats 1600000 in
set_option maxRecDepth 100000 in
theorem putTest_c (base L m : Nat) (A : Option Addr) (c : Nat) (ps : List Pt) (t : Tst) (ht : tstB t = true) (on no : Int) (h0 : smallI on) (h1 : smallI no) (w : World) (h : PL w base L m A c ps) (hb : base ≤ w.heap.size) (hn : ps.length ≤ 1000) :
    Calls Tryd.prog 131 #[.pointer (some ⟨L, 0, none⟩), tstV t, .int .i64 on, .int .i64 no] w (RetPut base L m (.slice A ps.length c) (testG ps t on no).1 (testG ps t on no).2 w) := by
  obtain ⟨a1, a2, a3, a4, a5, a6, a7⟩ := tst_and ht
  obtain ⟨f, mm, op, x⟩ := t
  simp only at a1 a2 a3 a4 a5 a6 a7
  have H0 := Lib.hid h
  clear h ht
  unfold tstV
  by_cases hop : op = 2
  · subst hop
    by_cases hx : x = 0
    · subst hx
      have HE : Hid (testG ps ⟨f, mm, 2, 0⟩ on no = (ps, no)) := Lib.hid rfl
      rw [HE.out]
      go_enter Tryd.func131, Tryd.ntmps131
      go_wp2
      go_returns
      exact ⟨A, c, rfl, H0.out.up (by go_grown), (Far.refl w _).alloc _, fun b hb => .inl hb⟩
    · have hx1 : 1 ≤ x := by omega
      have hx' : ((x : Int) == 0) = false := by simpa using hx
      have HP := Lib.hid (fun W h h2 => putLook_c base L m A c ps ⟨0, f, mm, 3, x - 1, no, on⟩ W h h2 hn (by unfold smallP; unfold smallI at *; simp only; omega))
      have HE : Hid (testG ps ⟨f, mm, 2, x⟩ on no = look ps ⟨0, f, mm, 3, x - 1, no, on⟩) := Lib.hid (by unfold testG; rw [if_pos rfl, if_neg hx])
      rw [HE.out]
      generalize look ps ⟨0, f, mm, 3, x - 1, no, on⟩ = R at *
      clear h0 h1
      unfold ptV at HP
      go_enter Tryd.func131, Tryd.ntmps131
      go_wp2_with fail
      refine (lookOf_c f mm 3 (x - 1) no on (w.heap.size + 1) _ (blk_two w 83 3 [.int .i64 f, .int .i64 mm, .int .i64 2, .int .i64 x] [.int .i64 no, .int .i64 on]).2).mono ?_
      rintro e w1 ⟨rfl, b1⟩
      have B1 := Lib.hid (below_via (w := w) (by go_grown) b1)
      have hs1 := b1.size
      simp at hs1
      clear b1
      unfold ptV
      go_wp2_with fail
      refine (HP.out _ (H0.out.up B1.out) (by omega)).mono ?_
      intro e w2 hret
      obtain ⟨A2, c2, rfl, p2, f2, n2⟩ := hret.pre B1.out
      have P2 := Lib.hid p2
      have F2 := Lib.hid f2
      have N2 := Lib.hid n2
      clear p2 f2 n2 hret
      go_wp2
      go_returns
      exact ⟨A2, c2, rfl, P2.out, F2.out, N2.out⟩
  · have hop' : (op != 2) = true := by simpa using hop
    have HP := Lib.hid (fun W h h2 => putLook_c base L m A c ps ⟨0, f, mm, op, x, on, no⟩ W h h2 hn (by unfold smallP; unfold smallI at *; simp only; omega))
    have HE : Hid (testG ps ⟨f, mm, op, x⟩ on no = look ps ⟨0, f, mm, op, x, on, no⟩) := Lib.hid (by unfold testG; rw [if_neg hop])
    rw [HE.out]
    generalize look ps ⟨0, f, mm, op, x, on, no⟩ = R at *
    clear h0 h1 a7
    unfold ptV at HP
    go_enter Tryd.func131, Tryd.ntmps131
    go_wp2_with fail
    refine (lookOf_c f mm op x on no (w.heap.size + 1) _ (blk_two w 83 3 [.int .i64 f, .int .i64 mm, .int .i64 op, .int .i64 x] [.int .i64 on, .int .i64 no]).2).mono ?_
    rintro e w1 ⟨rfl, b1⟩
    have B1 := Lib.hid (below_via (w := w) (by go_grown) b1)
    have hs1 := b1.size
    simp at hs1
    clear b1
    unfold ptV
    go_wp2_with fail
    refine (HP.out _ (H0.out.up B1.out) (by omega)).mono ?_
    intro e w2 hret
    obtain ⟨A2, c2, rfl, p2, f2, n2⟩ := hret.pre B1.out
    have P2 := Lib.hid p2
    have F2 := Lib.hid f2
    have N2 := Lib.hid n2
    clear p2 f2 n2 hret
    go_wp2
    go_returns
    exact ⟨A2, c2, rfl, P2.out, F2.out, N2.out⟩
set_option maxHeartbeats 3200000 in
set_option maxRecDepth 100000 in
theorem putRule_c (base L m : Nat) (A : Option Addr) (c : Nat) (ps : List Pt) (r : Rl) (TA : Option Addr) (tc : Nat) (hr : ruleB r = true) (no : Int) (w : World) (h : PL w base L m A c ps) (hb : base ≤ w.heap.size) (hL : base ≤ L) (hM : base ≤ m) (hn : ps.length ≤ 900)
    (hps : GP ps) (hnd : ps.Nodup) (h0 : 0 ≤ no) (h1 : no < ps.length) (hT : Rd w base 4 TA r.ts.length (tsts r.ts)) :
    Calls Tryd.prog 98 #[.pointer (some ⟨L, 0, none⟩), .agg #[.int .i64 r.v, .int .i64 r.lo, .int .i64 r.hi, .slice TA r.ts.length tc], .int .i64 no] w (RetPut base L m (.slice A ps.length c) (ruleG ps r no).1 (ruleG ps r no).2 w) := by
  obtain ⟨b1, b2, b3, b4, b5, b6⟩ := rule_and hr
  have hv : 1 ≤ r.v ∧ r.v ≤ 4 := by simpa [ruleB.verB'] using b1
  have hsm : smallP (leafP r.v) := by unfold smallP smallI leafP; simp only; omega
  obtain ⟨v, lo, hi, ts⟩ := r
  simp only at b1 b2 b3 b4 b5 b6 hT hv hsm ⊢
  obtain ⟨W0, hW0⟩ : ∃ W0, W0 = w.alloc (.cells #[.int .i64 v, .int .i64 lo, .int .i64 hi, .slice TA ts.length tc] 35) := ⟨_, rfl⟩
  have hne : (Value.slice A ps.length c).ownBlock ≠ some w.heap.size := own_old h.own (Nat.le_refl _)
  have hge := own_ge h.own
  obtain ⟨hLl, hMl⟩ := h.lts
  have B0 := Lib.hid (show Below w.heap.size w W0 from hW0 ▸ (Below.refl _ _).alloc (Nat.le_refl _) _)
  have X0 := Lib.hid (show Blk W0 w.heap.size 35 [.int .i64 v, .int .i64 lo, .int .i64 hi, .slice TA ts.length tc] from hW0 ▸ Blk.new w 35 [.int .i64 v, .int .i64 lo, .int .i64 hi, .slice TA ts.length tc])
  have P0' := Lib.hid (h.up B0.out)
  have T0 := Lib.hid (hT.below (B0.out.mono hb))
  have hs0 : W0.heap.size = w.heap.size + 1 := by rw [hW0]; simp
  have HW0 := Lib.hid hW0
  have HGE := Lib.hid hge
  have HB6 := Lib.hid b6
  have hokX : putOk L m (.slice A ps.length c) w.heap.size := ⟨by omega, by omega, hne⟩
  have hokB : ∀ t, t < base → putOk L m (.slice A ps.length c) t := fun t ht => ⟨by omega, by omega, fun e => by have := hge t e; omega⟩
  have HOX := Lib.hid hokX
  have HOB := Lib.hid hokB
  obtain ⟨V0, hV0⟩ : ∃ V0, V0 = Value.slice A ps.length c := ⟨_, rfl⟩
  obtain ⟨RR, hRR⟩ : ∃ RR, RR = ruleG ps ⟨v, lo, hi, ts⟩ no := ⟨_, rfl⟩
  rw [← hRR, ← hV0]
  rw [← hV0] at HOX HOB
  have HV0 := Lib.hid hV0
  have HRR := Lib.hid hRR
  obtain ⟨pp, _⟩ := leaf_put hps hnd hv
  have HLF := Lib.hid pp
  have hSM := Lib.hid hsm
  have x00 := X0.out.cell (i := 0) rfl
  clear h hge hT hW0 b6 hr hRR b1 hokX hokB hps hnd hV0 hsm pp hne
  go_enter Tryd.func98, Tryd.ntmps98
  go_wp2_with fail
  rw [← HW0.out]
  refine (put_c base L m A c ps (leafP v) W0 P0'.out (by omega) (by omega) hSM.out).mono ?_
  rintro e w1 ⟨A1, c1, rfl, p1, f1, n1⟩
  rw [← HV0.out] at f1
  have n1' : NewOb W0 V0.ownBlock (Value.slice A1 (ins ps (leafP v)).length c1).ownBlock := by rw [HV0.out]; exact n1
  obtain ⟨P0, hP0⟩ : ∃ P0 : List Pt × Int, P0 = (ins ps (leafP v), ((ps.idxOf (leafP v) : Nat) : Int)) := ⟨_, rfl⟩
  have HLF2 := HLF.out
  rw [← hP0] at HLF2
  have hl2 := HLF2.len
  have hl3 := HLF2.ext.len
  have HRR2 : Hid (RR = (if lo = hi then look (testsG P0.1 P0.2 no ts).1 (numG 1 lo (testsG P0.1 P0.2 no ts).2 no) else if 0 < lo then look (if hi < 4294967295 then look (testsG P0.1 P0.2 no ts).1 (numG 3 hi no (testsG P0.1 P0.2 no ts).2) else testsG P0.1 P0.2 no ts).1 (numG 3 (lo - 1) (if hi < 4294967295 then look (testsG P0.1 P0.2 no ts).1 (numG 3 hi no (testsG P0.1 P0.2 no ts).2) else testsG P0.1 P0.2 no ts).2 no) else (if hi < 4294967295 then look (testsG P0.1 P0.2 no ts).1 (numG 3 hi no (testsG P0.1 P0.2 no ts).2) else testsG P0.1 P0.2 no ts))) := by
    show _ = _
    rw [HRR.out, hP0]
    rfl
  have HQ : Hid (∀ k, Put P0.1 4 (testsG P0.1 P0.2 no (ts.drop k))) := Lib.hid (fun k => by
    have hd : (ts.drop k).all tstB = true := by
      have := HB6.out
      rw [List.all_eq_true] at this ⊢
      exact fun t h => this t (List.mem_of_mem_drop h)
    have q := (tests_put HLF2.gp HLF2.nd HLF2.lo HLF2.hi h0 (no := no) (by omega) (ts.drop k) hd).1
    have h2 : (ts.drop k).length ≤ 4 := by rw [List.length_drop]; omega
    have h3 := q.len
    exact ⟨q.gp, q.nd, q.ext, q.lo, q.hi, by omega⟩)
  have e1 : (ins ps (leafP v)) = P0.1 := by rw [hP0]
  have e2 : ((ps.idxOf (leafP v) : Nat) : Int) = P0.2 := by rw [hP0]
  rw [e1] at p1 n1'
  rw [e2]
  have P1 := Lib.hid p1
  have F1 := Lib.hid f1
  have N1 := Lib.hid n1'
  have X1 := Lib.hid (f1.blk X0.out HOX.out)
  have x13 := X1.out.cell (i := 3) rfl
  have hs1 := f1.size
  clear p1 f1 n1 n1' hP0 HRR x00 e1 e2 HLF HLF2
  go_wp2_with fail
  go_loopg [7, 8] ts.length (fun gk at_ i wr => ∃ (R : List Pt × Int) (A2 : Option Addr) (c2 : Nat), gk ≤ ts.length ∧ i = .int .i64 ((gk : Int) - 1) ∧ at_ = .int .i64 R.2 ∧ Hid (R = testsG P0.1 P0.2 no (ts.drop gk)) ∧ Hid (PL wr base L m A2 c2 R.1) ∧ Hid (Far W0 wr (putOk L m V0)) ∧ Hid (NewOb W0 V0.ownBlock (Value.slice A2 R.1.length c2).ownBlock))
  case atStart => exact ⟨P0, A1, c1, Nat.le_refl _, rfl, rfl, Lib.hid (by rw [List.drop_length]; rfl), P1, F1, N1⟩
  case round =>
    obtain ⟨R, A2, c2, hgk, rfl, rfl, HR, HP, HF, HN⟩ := hrel
    have hbs := HF.out.size
    have HX := Lib.hid (HF.out.blk X0.out HOX.out)
    have x3 := HX.out.cell (i := 3) rfl
    have q := HQ.out gk
    rw [← HR.out] at q
    have q1 := q.len
    have q2 := q.lo
    have q3 := q.hi
    have q4 := q.ext.len
    clear q
    by_cases hk : gk = 0
    · subst hk
      have HRf : Hid (testsG P0.1 P0.2 no ts = R) := Lib.hid HR.out.symm
      have HE := HRR2
      rw [HRf.out] at HE
      have x1 := HX.out.cell (i := 1) rfl
      have x2 := HX.out.cell (i := 2) rfl
      by_cases he : lo = hi
      · subst he
        rw [if_pos rfl] at HE
        have HC3 := Lib.hid (fun W h h2 => putLook_c base L m A2 c2 R.1 (numG 1 (lo) R.2 no) W h h2 (by omega) (by unfold smallP smallI numG; simp only; omega))
        generalize look R.1 (numG 1 (lo) R.2 no) = Q2 at *
        clear HRR2 HRf
        unfold numG ptV at HC3
        go_wp2_with fail
        refine (lookOf_c 0 4294967295 1 (lo) R.2 no wr.heap.size _ (Blk.new wr 3 [.int .i64 (R.2), .int .i64 (no)])).mono ?_
        rintro e u3 ⟨rfl, b3⟩
        have B3 := Lib.hid (below_via (w := wr) (by go_grown) b3)
        have hsu3 := b3.size
        simp at hsu3
        clear b3
        unfold ptV
        go_wp2_with fail
        refine (HC3.out _ (HP.out.up B3.out) (by omega)).mono ?_
        intro e w3 hret
        obtain ⟨A3, c3, rfl, p3, f3, n3⟩ := hret.pre B3.out
        have P3 := Lib.hid p3
        have F3 := Lib.hid (pf_step HF.out HN.out f3)
        have N3 := Lib.hid (HN.out.step n3 HF.out.size)
        have hs3 := F3.out.size
        clear p3 f3 n3 hret HC3
        go_wp2
        go_returns
        rw [HE.out, HV0.out]
        exact ⟨A3, c3, rfl, P3.out, HV0.out ▸ (far_of_below B0.out _).trans F3.out (fun t ho _ => ho), HV0.out ▸ N3.out.less (w := w) (by omega)⟩
      · rw [if_neg he] at HE
        have hne1 : ((lo : Int) == hi) = false := by simpa using he
        by_cases hh : hi < 4294967295
        · rw [if_pos hh] at HE
          have hQl := look_len R.1 (numG 3 hi no R.2)
          have hQp : Hid (0 ≤ (look R.1 (numG 3 hi no R.2)).2 ∧ (look R.1 (numG 3 hi no R.2)).2 ≤ 4294967295) := Lib.hid (by
            unfold look numG
            split
            · simp only; omega
            · have := (ins_len R.1 ⟨0, 0, 4294967295, 3, hi, no, R.2⟩).2.2
              have := (ins_len R.1 ⟨0, 0, 4294967295, 3, hi, no, R.2⟩).2.1
              simp only; omega)
          have HC3 := Lib.hid (fun W h h2 => putLook_c base L m A2 c2 R.1 (numG 3 (hi) no R.2) W h h2 (by omega) (by unfold smallP smallI numG; simp only; omega))
          obtain ⟨S, hS⟩ : ∃ S, S = look R.1 (numG 3 hi no R.2) := ⟨_, rfl⟩
          rw [← hS] at HE HC3 hQl hQp
          clear hS
          unfold numG ptV at HC3
          go_wp2_with fail
          refine (lookOf_c 0 4294967295 3 (hi) no R.2 wr.heap.size _ (Blk.new wr 3 [.int .i64 (no), .int .i64 (R.2)])).mono ?_
          rintro e u3 ⟨rfl, b3⟩
          have B3 := Lib.hid (below_via (w := wr) (by go_grown) b3)
          have hsu3 := b3.size
          simp at hsu3
          clear b3
          unfold ptV
          go_wp2_with fail
          refine (HC3.out _ (HP.out.up B3.out) (by omega)).mono ?_
          intro e w3 hret
          obtain ⟨A3, c3, rfl, p3, f3, n3⟩ := hret.pre B3.out
          have P3 := Lib.hid p3
          have F3 := Lib.hid (pf_step HF.out HN.out f3)
          have N3 := Lib.hid (HN.out.step n3 HF.out.size)
          have hs3 := F3.out.size
          clear p3 f3 n3 hret HC3
          obtain ⟨hq1, hq2⟩ := hQp.out
          have HX2 := Lib.hid (F3.out.blk X0.out HOX.out)
          clear x1 x2 x3 hQp
          have x1 := HX2.out.cell (i := 1) rfl
          by_cases hl : 0 < lo
          · have hl' : decide (0 < lo) = true := by simpa using hl
            have hl0 : 1 ≤ lo := by omega
            rw [if_pos hl] at HE
            have HC4 := Lib.hid (fun W h h2 => putLook_c base L m A3 c3 S.1 (numG 3 (lo - 1) S.2 no) W h h2 (by omega) (by unfold smallP smallI numG; simp only; omega))
            generalize look S.1 (numG 3 (lo - 1) S.2 no) = Q2 at *
            clear HRR2 HRf
            unfold numG ptV at HC4
            go_wp2_with fail
            refine (lookOf_c 0 4294967295 3 (lo - 1) S.2 no w3.heap.size _ (Blk.new w3 3 [.int .i64 (S.2), .int .i64 (no)])).mono ?_
            rintro e u4 ⟨rfl, b4⟩
            have B4 := Lib.hid (below_via (w := w3) (by go_grown) b4)
            have hsu4 := b4.size
            simp at hsu4
            clear b4
            unfold ptV
            go_wp2_with fail
            refine (HC4.out _ (P3.out.up B4.out) (by omega)).mono ?_
            intro e w4 hret
            obtain ⟨A4, c4, rfl, p4, f4, n4⟩ := hret.pre B4.out
            have P4 := Lib.hid p4
            have F4 := Lib.hid (pf_step F3.out N3.out f4)
            have N4 := Lib.hid (N3.out.step n4 F3.out.size)
            have hs4 := F4.out.size
            clear p4 f4 n4 hret HC4
            go_wp2
            go_returns
            rw [HE.out, HV0.out]
            exact ⟨A4, c4, rfl, P4.out, HV0.out ▸ (far_of_below B0.out _).trans F4.out (fun t ho _ => ho), HV0.out ▸ N4.out.less (w := w) (by omega)⟩
          · have hl' : decide (0 < lo) = false := by simpa using hl
            rw [if_neg hl] at HE
            go_wp2
            go_returns
            rw [HE.out, HV0.out]
            exact ⟨A3, c3, rfl, P3.out, HV0.out ▸ (far_of_below B0.out _).trans F3.out (fun t ho _ => ho), HV0.out ▸ N3.out.less (w := w) (by omega)⟩
        · rw [if_neg hh] at HE
          have hh' : decide (hi < 4294967295) = false := by simpa using hh
          by_cases hl : 0 < lo
          · have hl' : decide (0 < lo) = true := by simpa using hl
            have hl0 : 1 ≤ lo := by omega
            rw [if_pos hl] at HE
            have HC4 := Lib.hid (fun W h h2 => putLook_c base L m A2 c2 R.1 (numG 3 (lo - 1) R.2 no) W h h2 (by omega) (by unfold smallP smallI numG; simp only; omega))
            generalize look R.1 (numG 3 (lo - 1) R.2 no) = Q2 at *
            clear HRR2 HRf
            unfold numG ptV at HC4
            go_wp2_with fail
            refine (lookOf_c 0 4294967295 3 (lo - 1) R.2 no wr.heap.size _ (Blk.new wr 3 [.int .i64 (R.2), .int .i64 (no)])).mono ?_
            rintro e u4 ⟨rfl, b4⟩
            have B4 := Lib.hid (below_via (w := wr) (by go_grown) b4)
            have hsu4 := b4.size
            simp at hsu4
            clear b4
            unfold ptV
            go_wp2_with fail
            refine (HC4.out _ (HP.out.up B4.out) (by omega)).mono ?_
            intro e w4 hret
            obtain ⟨A4, c4, rfl, p4, f4, n4⟩ := hret.pre B4.out
            have P4 := Lib.hid p4
            have F4 := Lib.hid (pf_step HF.out HN.out f4)
            have N4 := Lib.hid (HN.out.step n4 HF.out.size)
            have hs4 := F4.out.size
            clear p4 f4 n4 hret HC4
            go_wp2
            go_returns
            rw [HE.out, HV0.out]
            exact ⟨A4, c4, rfl, P4.out, HV0.out ▸ (far_of_below B0.out _).trans F4.out (fun t ho _ => ho), HV0.out ▸ N4.out.less (w := w) (by omega)⟩
          · have hl' : decide (0 < lo) = false := by simpa using hl
            rw [if_neg hl] at HE
            go_wp2
            go_returns
            rw [HE.out, HV0.out]
            exact ⟨A2, c2, rfl, HP.out, HV0.out ▸ (far_of_below B0.out _).trans HF.out (fun t ho _ => ho), HV0.out ▸ HN.out.less (w := w) (by omega)⟩
    · obtain ⟨k, rfl⟩ : ∃ k, gk = k + 1 := ⟨gk - 1, by omega⟩
      have T1 := T0.out.below (HF.out.below (by omega) HOB.out)
      obtain ⟨b, off, t, rfl, hbb, ht, y0, y1, y2, y3⟩ := T1.tst (k := k) (by omega)
      have htb : tstB t = true := by
        have := HB6.out
        rw [List.all_eq_true] at this
        exact this t (List.mem_of_getElem? ht)
      have HT : Hid (testsG P0.1 P0.2 no (ts.drop k) = testG R.1 t R.2 no) := Lib.hid (by rw [drop_at ht, testsG, ← HR.out])
      have e1 : (((k + 1 : Nat) : Int) - 1) = (k : Int) := by omega
      rw [e1]
      have hm0 : (0 : Int) ≤ (k : Int) := by omega
      have HC := Lib.hid (fun W h => putTest_c base L m A2 c2 R.1 t htb R.2 no (by unfold smallI; omega) (by unfold smallI; omega) W h)
      unfold tstV at HC
      clear ht htb T1 e1 HR
      go_wp2_with fail
      refine (HC.out _ HP.out (by omega) (by omega)).mono ?_
      rintro e w2 ⟨A3, c3, rfl, p2, f2, n2⟩
      have P2 := Lib.hid p2
      have F2 := Lib.hid (pf_step HF.out HN.out f2)
      have N2 := Lib.hid (HN.out.step n2 hbs)
      clear p2 f2 n2
      go_wp2
      go_roundg k
      case measure => omega
      case rel =>
        go_light
        exact ⟨_, A3, c3, by omega, by go_num, rfl, Lib.hid HT.out.symm, P2, F2, N2⟩
theorem PL.base_ok {w : World} {base L m c : Nat} {A : Option Addr} {ps : List Pt} (h : PL w base L m A c ps) (hL : base ≤ L) (hM : base ≤ m) : ∀ t, t < base → putOk L m (.slice A ps.length c) t :=
  fun t ht => ⟨by omega, by omega, fun e => by have := own_ge h.own t e; omega⟩
set_option maxHeartbeats 3200000 in
set_option maxRecDepth 100000 in
theorem graphMake_c (A : Option Addr) (c : Nat) (rs : List Rl) (els : Int) (w : World) (hr : RdR w w.heap.size A rs.length rs) (hn : rs.length ≤ 9223372036854775807) (hp : PT w w.heap.size) :
    Calls Tryd.prog 48 #[.agg #[.slice A rs.length c, .int .i64 els]] w (RetOwn 106 7 (makeR ⟨rs, els⟩).length (pts (makeR ⟨rs, els⟩)) w) := by
  have HK := Lib.hid (fun W h k => policyOk_c A rs.length c rs els W h hn k)
  have HR := Lib.hid hr
  have HP := Lib.hid hp
  clear hr hp
  have X0 := Lib.hid (Blk.new w 25 [.slice A rs.length c, .int .i64 els])
  by_cases hok : polOk ⟨rs, els⟩ = true
  · rw [hok] at HK
    have HE : Hid (makeR ⟨rs, els⟩ = trimN (makeG els rs).1.length (makeG els rs).1 (makeG els rs).2.toNat) := Lib.hid (by unfold makeR; rw [if_pos hok])
    have hall := (polOk_all hok).2.1
    have h8 := (polOk_all hok).1
    have he := polOk_els hok
    obtain ⟨g0, g1, g2, g3⟩ := makeG_lt he hall h8
    have HG0 := Lib.hid g0
    have HALL := Lib.hid hall
    have HPUT : Hid (∀ k, Put [] 57 (makeG els (rs.drop k))) := Lib.hid (fun k => by
      have hd : (rs.drop k).all ruleB = true := by
        have := HALL.out
        rw [List.all_eq_true] at this ⊢
        exact fun t h => this t (List.mem_of_mem_drop h)
      have q := (make_put he (rs.drop k) hd).1
      have h2 : (rs.drop k).length ≤ 8 := by rw [List.length_drop]; omega
      have h3 := q.len
      exact ⟨q.gp, q.nd, q.ext, q.lo, q.hi, by simp at h3 ⊢; omega⟩)
    have hsm : smallP (leafP els) := by unfold smallP smallI leafP; simp only; omega
    have HSM := Lib.hid hsm
    obtain ⟨RR, hRR⟩ : ∃ RR, RR = makeR ⟨rs, els⟩ := ⟨_, rfl⟩
    rw [← hRR] at HE ⊢
    clear hok g0 hall he hsm hRR g1 g2 g3
    go_enter Tryd.func48, Tryd.ntmps48
    (go_wp2_with fail); (go_at_call 17; refine (HK.out _ (HR.out.upB (by go_grown) (by go_size)) ((HP.out.below (by go_grown)).more (by (try simp) <;> omega))).mono ?_; rintro e w1 ⟨rfl, b1⟩; have X1 := Lib.hid (X0.out.up b1); obtain ⟨gc1, gf1⟩ := below_get b1; (try simp only [heap_drew, World.size_alloc, World.size_setCell] at gc1 gf1); have s1 := below_via (w := w) (by go_grown) b1; have H1 := s1; have hs1 := b1.size; (try simp at hs1); have z1_0 : w.heap.size < w1.heap.size := (by omega); clear b1)
    (go_wp2_with fail); (go_at_call 96; refine (newPointList_c _).mono ?_; rintro e w2 ⟨rfl, p2, b2, hw2⟩; have P2 := Lib.hid p2; have X2 := Lib.hid (X1.out.up b2); clear p2; obtain ⟨gc2, gf2⟩ := below_get b2; (try simp only [heap_drew, World.size_alloc, World.size_setCell] at gc2 gf2); have s2 := below_via (w := w1) (by go_grown) b2; have H2 := below_via H1 s2; have hs2 := b2.size; (try simp at hs2); have z2_0 : w.heap.size < w2.heap.size := (by omega); clear b2)
    obtain ⟨B, hB⟩ : ∃ B, B = w1.heap.size := ⟨_, rfl⟩
    rw [← hB] at P2 z1_0 s2 hw2 ⊢
    have R2 := Lib.hid (RdR.more (HR.out.below H1) (show w.heap.size ≤ B by omega))
    have hBs : B ≤ w2.heap.size := by omega
    have R22 := Lib.hid (R2.out.below s2)
    have x21 := X2.out.cell (i := 1) rfl
    have e1 : (([] : List Pt).length) = 0 := rfl
    have HPC := Lib.hid (fun W h h2 => put_c B (B + 1) B none 0 [] (leafP els) W h h2 (by simp) HSM.out)
    have HH2 := Lib.hid H2
    clear X1 HP HK hB s1 H1 hs1 gc1 gf1 hs2
    go_wp2_with fail
    refine (HPC.out _ P2.out hBs).mono ?_
    rintro e w3 ⟨A3, c3, rfl, p3, f3, n3⟩
    have hi1 : (ins ([] : List Pt) (leafP els), ((([] : List Pt).idxOf (leafP els) : Nat) : Int)) = makeG els (rs.drop rs.length) := by rw [List.drop_length]; rfl
    obtain ⟨P0, hP0⟩ : ∃ P0, P0 = makeG els (rs.drop rs.length) := ⟨_, rfl⟩
    have e1 : ins ([] : List Pt) (leafP els) = P0.1 := by rw [hP0, ← hi1]
    have e2 : ((([] : List Pt).idxOf (leafP els) : Nat) : Int) = P0.2 := by rw [hP0, ← hi1]
    rw [e1] at p3 n3
    rw [e2]
    have P3 := Lib.hid p3
    have B3 := Lib.hid (f3.below hBs (P2.out.base_ok (by omega) (Nat.le_refl _)))
    have X3 := Lib.hid (X2.out.below B3.out (by omega))
    have x30 := X3.out.cell (i := 0) rfl
    have HP0 := Lib.hid hP0
    have hs3 := B3.out.size
    clear p3 f3 n3 hi1 e1 e2 hP0 x21
    go_wp2_with fail
    go_loopg [4, 5] rs.length (fun gk at_ i wr => ∃ (R : List Pt × Int) (A2 : Option Addr) (c2 : Nat), gk ≤ rs.length ∧ i = .int .i64 ((gk : Int) - 1) ∧ at_ = .int .i64 R.2 ∧ Hid (R = makeG els (rs.drop gk)) ∧ Hid (PL wr B (B + 1) B A2 c2 R.1) ∧ Hid (Below B w2 wr))
    case atStart => exact ⟨P0, A3, c3, Nat.le_refl _, rfl, rfl, HP0, P3, B3⟩
    case round =>
      obtain ⟨R, A2, c2, hgk, rfl, rfl, HRk, HPk, HBk⟩ := hrel
      have hbs := HBk.out.size
      have HX := Lib.hid (X2.out.below HBk.out (by omega))
      have x0 := HX.out.cell (i := 0) rfl
      have q := HPUT.out gk
      rw [← HRk.out] at q
      have q1 := q.len
      have q2 := q.lo
      have q3 := q.hi
      simp at q1
      have HQ := Lib.hid q
      clear q
      by_cases hk : gk = 0
      · subst hk
        have HR0 : Hid (makeG els rs = R) := Lib.hid HRk.out.symm
        have HE2 := HE
        rw [HR0.out] at HE2 HG0
        have l0 := HPk.out.blk.cell (i := 0) rfl
        obtain ⟨a, ha⟩ := Int.eq_ofNat_of_zero_le q2
        have ha' : R.2.toNat = a := by omega
        have HT := Lib.hid (trimFrom_c R.1.length A2 R.1.length c2 R.1 a wr (Rd.of_own HPk.out.own) HG0.out (by omega) (by omega))
        rw [ha'] at HE2
        rw [← HE2.out, ← ha] at HT
        clear HE HR0 HRk HPUT ha ha'
        go_wp2_with fail
        refine HT.out.mono ?_
        rintro e w4 ⟨A4, c4, rfl, o4, b4⟩
        have O4 := Lib.hid (own_base o4 (show w.heap.size ≤ wr.heap.size by have := HH2.out.size; omega))
        have B4 := Lib.hid (HH2.out.trans ((HBk.out.mono (show w.heap.size ≤ B by omega)).trans (b4.mono (show w.heap.size ≤ wr.heap.size by have := HH2.out.size; omega))))
        clear o4 b4
        go_wp2
        go_returns
        exact ⟨A4, c4, rfl, O4.out, B4.out⟩
      · obtain ⟨k, rfl⟩ : ∃ k, gk = k + 1 := ⟨gk - 1, by omega⟩
        have R1 := R22.out.below HBk.out
        obtain ⟨b, off, r, rfl, hbb, hr, hat⟩ := R1.rl (k := k) (by omega)
        have hrb : ruleB r = true := by
          have := HALL.out
          rw [List.all_eq_true] at this
          exact this r (List.mem_of_getElem? hr)
        have HT : Hid (makeG els (rs.drop k) = ruleG R.1 r R.2) := Lib.hid (by rw [drop_at hr, makeG, ← HRk.out])
        obtain ⟨TA, tc, y0, y1, y2, y3, htt, htl⟩ := hat
        have e1 : (((k + 1 : Nat) : Int) - 1) = (k : Int) := by omega
        rw [e1]
        have hm0 : (0 : Int) ≤ (k : Int) := by omega
        have HC := Lib.hid (putRule_c B (B + 1) B A2 c2 R.1 r TA tc hrb R.2 wr HPk.out (by omega) (by omega) (Nat.le_refl _) (by omega) HQ.out.gp HQ.out.nd q2 q3 htt)
        have HBO := Lib.hid (HPk.out.base_ok (show B ≤ B + 1 by omega) (Nat.le_refl B))
        clear hr hrb R1 e1 HRk htt HE HPUT
        go_wp2_with fail
        refine HC.out.mono ?_
        rintro e w4 ⟨A4, c4, rfl, p4, f4, n4⟩
        have P4 := Lib.hid p4
        have B4 := Lib.hid (HBk.out.trans (f4.below (by omega) HBO.out))
        clear p4 f4 n4 HBO
        go_wp2
        go_roundg k
        case measure => omega
        case rel =>
          go_light
          exact ⟨_, A4, c4, by omega, by go_num, rfl, Lib.hid HT.out.symm, P4, B4⟩
  · have hf : polOk ⟨rs, els⟩ = false := by simpa using hok
    rw [hf] at HK
    have HE : Hid (makeR ⟨rs, els⟩ = []) := Lib.hid (by unfold makeR; rw [if_neg hok])
    rw [HE.out]
    clear hok hf HE
    go_enter Tryd.func48, Tryd.ntmps48
    (go_wp2_with fail); (go_at_call 17; refine (HK.out _ (HR.out.upB (by go_grown) (by go_size)) ((HP.out.below (by go_grown)).more (by (try simp) <;> omega))).mono ?_; rintro e w1 ⟨rfl, b1⟩; obtain ⟨gc1, gf1⟩ := below_get b1; (try simp only [heap_drew, World.size_alloc, World.size_setCell] at gc1 gf1); have s1 := below_via (w := w) (by go_grown) b1; have H1 := s1; have hs1 := b1.size; (try simp at hs1); have z1_0 : w.heap.size < w1.heap.size := (by omega); clear b1)
    go_wp2
    go_returns
    exact ⟨none, 0, rfl, World.ownsRow_nil _ _ _ _, by go_grown⟩
end Go.Proofs.YtljgaepgblakhaaDoor
