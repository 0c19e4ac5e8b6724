/- The contracts of the program's trimming. Conditions: each contract's own. -/
import Derived.Test.YtljgaepgblakhaaPut
import Derived.BigRegion
namespace Go.Proofs.Ytljgaepgblakhaa
set_option linter.unusedSimpArgs false
open Go.RowKit Go.Maps
set_option linter.unusedVariables false
set_option linter.unnecessarySimpa false
theorem below_dN {B : Nat} {a w : World} (h : Below B a w) (n : Nat) : Below B a (w.drewN n) := h.trans ⟨rfl, rfl, rfl, Nat.le_refl _, fun _ _ => rfl⟩
theorem pass_stay {g : List Pt} (hg : GOk g) {a : Nat} (j : Nat) : passT g (usedF g a) (a + 1 + j) = passT g (usedF g a) (a + 1) := by
  induction j with
  | zero => rfl
  | succ j ih =>
    rw [show a + 1 + (j + 1) = (a + 1 + j) + 1 from by omega, passT, ih]
    unfold stepT
    split
    · rw [if_neg (by rw [usedF_high hg (by omega)]; simp)]
    · rfl
set_option maxHeartbeats 4000000 in
set_option maxRecDepth 100000 in
theorem putAnew_c (A : Option Addr) (n c : Nat) (g : List Pt) (a : Nat) (w : World) (hr : Rd w w.heap.size 7 A n (pts g)) (hg : GOk g) (ha : a < n) :
    Calls Try.prog 26 #[.slice A n c, .int .i64 a] w (fun e w' => ∃ A' c' out ta, e = .returned (.tuple #[.slice A' out.length c', .int .i64 ta]) ∧ out = (passT g (usedF g a) (a + 1)).1 ∧ ta = (passT g (usedF g a) (a + 1)).2.getD a 0 ∧ w'.ownsRow w.heap.size 29 7 (.slice A' out.length c') out.length (pts out) ∧ Below w.heap.size w w') := by
  obtain ⟨i0, hi, hz0, hz1, hz2⟩ := info_parts info_int
  have hl : g.length = n := by have := hr.1; rw [pts_len] at this; omega
  have hn : n ≤ 120 := by have := hg.1; omega
  have HR := Lib.hid hr
  have HG := Lib.hid hg
  have HL := Lib.hid hl
  have HP := Lib.hid (fun k hk => pass_ok hg (a := a) (k := k) hk)
  have hst := pass_stay hg (a := a) (n - (a + 1))
  rw [show a + 1 + (n - (a + 1)) = n from by omega] at hst
  have HST := Lib.hid hst
  have HU := Lib.hid (fun (W : World) h => pointsFrom_c A n c g a W h hg ha)
  have hUl := usedF_len g a
  rw [hl] at hUl
  have HUL := Lib.hid hUl
  clear hr hg hl hst hUl
  generalize usedF g a = U at *
  go_enter Try.func26, Try.ntmps26
  (go_wp2_with fail); (go_at_call 36; refine (newPointList_c _).mono ?_; rintro e w1 ⟨rfl, hpl, b1, hz1'⟩; have P1 := Lib.hid hpl; have B1 := Lib.hid b1; clear hpl b1)
  go_wp2_with (at_make; refine wpList_make_full _ rfl _ _ 30 rfl w1.heap.size 3 i0 _ 1 Try.underlying30 hi hz0 hz1 .i64 .i64 (n : Int) (n : Int) n rfl rfl rfl rfl ?b2 ?b3 ?b4 ?_)
  case b2 => rw [hz2]; omega
  case b3 => unfold maxLen; omega
  case b4 => exact Nat.le_refl _
  intro w2 hown2 hg2
  have hs2 := hg2.size
  have hzz : (madeCells #[Value.int .i64 0] n).toList = ints (List.replicate n 0) := by rw [toList_madeCells_one]; simp [ints]
  rw [hzz] at hown2
  have hBT := (hown2.lt _ rfl).2
  have F2 := (Far.refl w1 (fun _ => True)).grown hg2 (by simp)
  have P2 := Lib.hid (P1.out.far F2 trivial trivial (fun _ _ => trivial))
  have Z2 := Lib.hid (own_base hown2 (show w.heap.size ≤ w1.heap.size by omega))
  have B2 := Lib.hid (B1.out.trans (F2.below (show w.heap.size ≤ w1.heap.size by omega) (fun _ _ => trivial)))
  clear hown2 hg2 hzz hi hz0 hz1 hz2 F2 P1 B1
  have hs2' := hs2
  go_wp2_with fail
  refine (HU.out _ (HR.out.upB B2.out (by omega))).mono ?_
  rintro e w3 ⟨AU, cU, rfl, oU, b3⟩
  obtain ⟨gU, rfl⟩ := own_someE oU (by omega)
  have hgU1 := (oU.lt gU rfl).1
  have hgU2 := (oU.lt gU rfl).2
  have hs3 := b3.size
  have F3 : Far w2 w3 (fun _ => True) := ⟨b3.os, b3.tape, b3.output, b3.size, fun t ht _ => b3.block t ht⟩
  have P3 := Lib.hid (P2.out.far F3 trivial trivial (fun _ _ => trivial))
  have Z3 := Lib.hid (own_up Z2.out b3)
  have V3 := Lib.hid (own_base oU (show w.heap.size ≤ w2.heap.size by omega))
  have B3 := Lib.hid (B2.out.trans (F3.below (show w.heap.size ≤ w2.heap.size by omega) (fun _ _ => trivial)))
  clear oU b3 F3 P2 Z2 B2 HU
  generalize hC0 : w.heap.size = C0 at *
  generalize hBTe : w1.heap.size = BT at *
  have hgUB : gU ≠ BT := by omega
  have hgUL : gU ≠ C0 + 1 := by omega
  have hgUM : gU ≠ C0 := by omega
  have hBL : BT ≠ C0 + 1 := by omega
  have hBM : BT ≠ C0 := by omega
  have hB3 : BT < w3.heap.size := by omega
  have hC3 : C0 + 1 < w3.heap.size := by omega
  go_wp2
  clear hs2 hs2' hs3 hgU1
  go_loopg [19] n (fun gk i wr => ∃ (k : Nat) (A6 : Option Addr) (c6 : Nat) (out : List Pt) (Z : List Int), gk + k = n ∧ i = .int .i64 k ∧ Hid (passT g U k = (out, Z)) ∧ Hid (PL wr C0 (C0 + 1) C0 A6 c6 out) ∧ Hid ((Value.slice A6 out.length c6).ownBlock ≠ some BT ∧ (Value.slice A6 out.length c6).ownBlock ≠ some gU) ∧ Hid (wr.ownsRow C0 3 1 (.slice (some ⟨BT, 0, none⟩) n n) n (ints Z)) ∧ Hid (wr.ownsRow C0 4 1 (.slice (some ⟨gU, 0, none⟩) n cU) n (bools U)) ∧ Hid (Below C0 w wr) ∧ BT < wr.heap.size ∧ gU < wr.heap.size ∧ C0 + 1 < wr.heap.size)
  case atStart => exact ⟨0, none, 0, [], List.replicate n 0, rfl, rfl, by show _ = _; rw [passT, HL.out], P3, Lib.hid ⟨by simp [Value.ownBlock], by simp [Value.ownBlock]⟩, Z3, V3, B3, hB3, hgU2, hC3⟩
  case round =>
    obtain ⟨k, A6, c6, out, Z, hgk, rfl, HS, HPL, HNE, HZ, HV, HBe, hz7, hz8, hz9⟩ := hrel
    by_cases hk : k < n
    · obtain ⟨gk, rfl⟩ : ∃ m, gk = m + 1 := ⟨gk - 1, by omega⟩
      have hI := HP.out k (by rw [HL.out]; omega)
      rw [HS.out] at hI
      obtain ⟨b0, off, p, rfl, hb, hp, hpl, c0, c1, c2, c3, c4, c5, c6'⟩ := (HR.out.below HBe.out).pt (k := k) (by omega)
      obtain ⟨b, hb'⟩ := some_at HUL.out (k := k) (by omega)
      have cu := (HV.out.cellAt k (by omega)).trans (bools_at hb')
      have hpo := HG.out.2 k p hp
      have HPt := Lib.hid hp
      have HUk := Lib.hid hb'
      have HSm := Lib.hid hpo.1
      unfold smallP smallI at hpo
      have hil : out.length ≤ k := hI.len
      have hio : out.length ≤ 120 := hI.ok.1
      have HI := Lib.hid hI
      clear hI
      cases b with
      | false =>
        have HE : Hid (passT g U (k + 1) = (out, Z)) := by show _ = _; rw [passT, HS.out, step_no HUk.out]
        clear hpo hp hb'
        go_wp2
        go_roundg gk
        case measure => omega
        case rel =>
          go_light
          exact ⟨k + 1, A6, c6, out, Z, by omega, by go_num, HE, HPL, HNE, HZ, HV, HBe, hz7, hz8, hz9⟩
      | true =>
        have hzl : wr.heap.size + 1 = (wr.alloc (.cells #[.int .i64 p.v, .int .i64 p.f, .int .i64 p.m, .int .i64 p.op, .int .i64 p.x, .int .i64 p.y, .int .i64 p.n] 29)).heap.size := by simp
        have hz6 : C0 ≤ wr.heap.size := by omega
        by_cases h0 : p.op = 0
        · have HE : Hid (passT g U (k + 1) = (ins out p, Z.set k ((out.idxOf p : Nat) : Int))) := by show _ = _; rw [passT, HS.out, step_leaf HUk.out HPt.out h0]
          have hop : (p.op == 0) = true := by simp [h0]
          clear hpo hp hb' h0
          go_wp2_with fail
          refine (put_c C0 (C0 + 1) C0 A6 c6 out p _ (HPL.out.far ((Far.refl wr (fun _ => True)).alloc _) trivial trivial (fun _ _ => trivial)) (by rw [← hzl]; omega) (by omega) HSm.out).mono ?_
          rintro e w5 ⟨A7, c7, rfl, h1, h2, h3⟩
          have HN7 : Hid ((Value.slice A7 (ins out p).length c7).ownBlock ≠ some BT ∧ (Value.slice A7 (ins out p).length c7).ownBlock ≠ some gU) := Lib.hid ⟨fun e => by
              rcases h3 _ e with h | h
              · exact HNE.out.1 h
              · rw [← hzl] at h; omega, fun e => by
              rcases h3 _ e with h | h
              · exact HNE.out.2 h
              · rw [← hzl] at h; omega⟩
          have okT : putOk (C0 + 1) C0 (.slice A6 out.length c6) BT := ⟨hBL, hBM, HNE.out.1⟩
          have okU : putOk (C0 + 1) C0 (.slice A6 out.length c6) gU := ⟨hgUL, hgUM, HNE.out.2⟩
          have Z5 := Lib.hid (h2.own (HZ.out.alloc _) (fun t e => by injection e with e; exact e ▸ okT))
          have V5 := Lib.hid (h2.own (HV.out.alloc _) (fun t e => by injection e with e; exact e ▸ okU))
          have P5 := Lib.hid h1
          have B5 := Lib.hid ((HBe.out.alloc hz6 _).trans (h2.below (by rw [← hzl]; omega) (fun t ht => ⟨by omega, by omega, fun e => by have := (HPL.out.own.lt t e).1; omega⟩)))
          have hs5 := h2.size
          rw [← hzl] at hs5
          clear h1 h2 h3 okT okU
          obtain ⟨z0, hz0⟩ := some_at (Z5.out.1) (k := k) (by omega)
          have cz := (Z5.out.cellAt k (by omega)).trans hz0
          have cfz := fun i => Z5.out.frozenAt i
          clear hz0
          generalize ins out p = out' at *
          generalize ((out.idxOf p : Nat) : Int) = ix at *
          go_wp2
          go_roundg gk
          case measure => omega
          case rel =>
            go_light
            exact ⟨k + 1, A7, c7, out', Z.set k ix, by omega, by go_num, HE, P5.out.far ((Far.refl w5 (fun t => t ≠ BT)).set_ _ (fun t h _ e => h e.symm)) (fun e => hBL e.symm) (fun e => hBM e.symm) (fun t e h => HN7.out.1 (h ▸ e)), HN7, by have := (Z5.out.stored k (.int .i64 ix)).1; rw [ints_set] at this; exact this, own_set_other V5.out (by simp [Value.ownBlock]; exact hgUB) _, B5.out.setCell (by simp; omega) _, by simp; omega, by simp; omega, by simp; omega⟩
        · have hop : (p.op == 0) = false := by simp [h0]
          obtain ⟨yn, hyn⟩ := Int.eq_ofNat_of_zero_le (a := p.y) (by omega)
          obtain ⟨nn, hnn⟩ := Int.eq_ofNat_of_zero_le (a := p.n) (by omega)
          have hyl : yn < n := by omega
          have hnl : nn < n := by omega
          obtain ⟨ty, hty⟩ := some_at (HI.out.tlen.trans HL.out) hyl
          obtain ⟨tn, htn⟩ := some_at (HI.out.tlen.trans HL.out) hnl
          have hq : led p Z = ⟨p.v, p.f, p.m, p.op, p.x, ty, tn⟩ := by
            unfold led
            rw [hyn, hnn]
            simp only [Int.toNat_natCast, igetD hty, igetD htn]
          have hy0 := HI.out.low yn
          have hn0 := HI.out.low nn
          have hy1 := HI.out.high yn
          have hn1 := HI.out.high nn
          simp only [igetD hty, igetD htn] at hy0 hn0 hy1 hn1
          have HSq : Hid (smallP ⟨p.v, p.f, p.m, p.op, p.x, ty, tn⟩) := by
            have := HSm.out
            show smallP _
            unfold smallP smallI at *
            simp only
            omega
          have HE : Hid (passT g U (k + 1) = ((look out ⟨p.v, p.f, p.m, p.op, p.x, ty, tn⟩).1, Z.set k (look out ⟨p.v, p.f, p.m, p.op, p.x, ty, tn⟩).2)) := by show _ = _; rw [passT, HS.out, step_look HUk.out HPt.out h0 hq]
          rw [hyn] at c5 hzl
          rw [hnn] at c6' hzl
          have hX := Blk.new wr 29 [.int .i64 p.v, .int .i64 p.f, .int .i64 p.m, .int .i64 p.op, .int .i64 p.x, .int .i64 (yn : Int), .int .i64 (nn : Int)]
          have x5 := hX.cell (i := 5) rfl
          have x6 := hX.cell (i := 6) rfl
          have xf := hX.free
          have HXb := Lib.hid hX
          have HZ0 := Lib.hid (HZ.out.alloc (.cells #[.int .i64 p.v, .int .i64 p.f, .int .i64 p.m, .int .i64 p.op, .int .i64 p.x, .int .i64 (yn : Int), .int .i64 (nn : Int)] 29))
          have ty0 := (HZ.out.cellAt yn (by omega)).trans (ints_at hty)
          have tn0 := (HZ.out.cellAt nn (by omega)).trans (ints_at htn)
          have HV0 := Lib.hid (HV.out.alloc (.cells #[.int .i64 p.v, .int .i64 p.f, .int .i64 p.m, .int .i64 p.op, .int .i64 p.x, .int .i64 (yn : Int), .int .i64 (nn : Int)] 29))
          have HB0 := Lib.hid (HBe.out.alloc hz6 (.cells #[.int .i64 p.v, .int .i64 p.f, .int .i64 p.m, .int .i64 p.op, .int .i64 p.x, .int .i64 (yn : Int), .int .i64 (nn : Int)] 29))
          have HP0 := Lib.hid (HPL.out.far ((Far.refl wr (fun _ => True)).alloc (.cells #[.int .i64 p.v, .int .i64 p.f, .int .i64 p.m, .int .i64 p.op, .int .i64 p.x, .int .i64 (yn : Int), .int .i64 (nn : Int)] 29)) trivial trivial (fun _ _ => trivial))
          have hxB : BT ≠ wr.heap.size := by omega
          have hxB' : wr.heap.size ≠ BT := by omega
          have hio' : out.length ≤ 1000 := by omega
          clear hpo hp hb' hq hX hty htn h0 hyn hnn
          go_wp2
          go_region
          obtain ⟨W6, hW6⟩ : ∃ W6, W6 = (wr.alloc (.cells #[.int .i64 p.v, .int .i64 p.f, .int .i64 p.m, .int .i64 p.op, .int .i64 p.x, .int .i64 ty, .int .i64 tn] 29)).drew := ⟨_, rfl⟩
          have s6 : W6.heap.size = wr.heap.size + 1 := by rw [hW6]; simp
          have HZ6 := Lib.hid (show W6.ownsRow C0 3 1 (.slice (some ⟨BT, 0, none⟩) n n) n (ints Z) from hW6 ▸ HZ.out.alloc (.cells #[.int .i64 p.v, .int .i64 p.f, .int .i64 p.m, .int .i64 p.op, .int .i64 p.x, .int .i64 ty, .int .i64 tn] 29))
          have HV6 := Lib.hid (show W6.ownsRow C0 4 1 (.slice (some ⟨gU, 0, none⟩) n cU) n (bools U) from hW6 ▸ HV.out.alloc (.cells #[.int .i64 p.v, .int .i64 p.f, .int .i64 p.m, .int .i64 p.op, .int .i64 p.x, .int .i64 ty, .int .i64 tn] 29))
          have HB6 := Lib.hid (show Below C0 w W6 from hW6 ▸ (HBe.out.alloc hz6 (.cells #[.int .i64 p.v, .int .i64 p.f, .int .i64 p.m, .int .i64 p.op, .int .i64 p.x, .int .i64 ty, .int .i64 tn] 29)).drew)
          have HP6 := Lib.hid (show PL W6 C0 (C0 + 1) C0 A6 c6 out from HPL.out.far (show Far wr W6 (fun _ => True) from hW6 ▸ ((Far.refl wr (fun _ => True)).alloc (.cells #[.int .i64 p.v, .int .i64 p.f, .int .i64 p.m, .int .i64 p.op, .int .i64 p.x, .int .i64 ty, .int .i64 tn] 29)).drew) trivial trivial (fun _ _ => trivial))
          have x60 : W6.cell? ⟨wr.heap.size, 0, none⟩ = some (.int .i64 p.v) := hW6 ▸ (Blk.new wr 29 [.int .i64 p.v, .int .i64 p.f, .int .i64 p.m, .int .i64 p.op, .int .i64 p.x, .int .i64 ty, .int .i64 tn]).cell (i := 0) rfl
          have x61 : W6.cell? ⟨wr.heap.size, 1, none⟩ = some (.int .i64 p.f) := hW6 ▸ (Blk.new wr 29 [.int .i64 p.v, .int .i64 p.f, .int .i64 p.m, .int .i64 p.op, .int .i64 p.x, .int .i64 ty, .int .i64 tn]).cell (i := 1) rfl
          have x62 : W6.cell? ⟨wr.heap.size, 2, none⟩ = some (.int .i64 p.m) := hW6 ▸ (Blk.new wr 29 [.int .i64 p.v, .int .i64 p.f, .int .i64 p.m, .int .i64 p.op, .int .i64 p.x, .int .i64 ty, .int .i64 tn]).cell (i := 2) rfl
          have x63 : W6.cell? ⟨wr.heap.size, 3, none⟩ = some (.int .i64 p.op) := hW6 ▸ (Blk.new wr 29 [.int .i64 p.v, .int .i64 p.f, .int .i64 p.m, .int .i64 p.op, .int .i64 p.x, .int .i64 ty, .int .i64 tn]).cell (i := 3) rfl
          have x64 : W6.cell? ⟨wr.heap.size, 4, none⟩ = some (.int .i64 p.x) := hW6 ▸ (Blk.new wr 29 [.int .i64 p.v, .int .i64 p.f, .int .i64 p.m, .int .i64 p.op, .int .i64 p.x, .int .i64 ty, .int .i64 tn]).cell (i := 4) rfl
          have x65 : W6.cell? ⟨wr.heap.size, 5, none⟩ = some (.int .i64 ty) := hW6 ▸ (Blk.new wr 29 [.int .i64 p.v, .int .i64 p.f, .int .i64 p.m, .int .i64 p.op, .int .i64 p.x, .int .i64 ty, .int .i64 tn]).cell (i := 5) rfl
          have x66 : W6.cell? ⟨wr.heap.size, 6, none⟩ = some (.int .i64 tn) := hW6 ▸ (Blk.new wr 29 [.int .i64 p.v, .int .i64 p.f, .int .i64 p.m, .int .i64 p.op, .int .i64 p.x, .int .i64 ty, .int .i64 tn]).cell (i := 6) rfl
          rw [← hW6]
          clear hW6 x5 x6 xf ty0 tn0 HXb HZ0 HV0 HB0 HP0
          have HC := Lib.hid (putLook_c C0 (C0 + 1) C0 A6 c6 out ⟨p.v, p.f, p.m, p.op, p.x, ty, tn⟩ W6 HP6.out (by omega) hio' HSq.out)
          generalize (look out ⟨p.v, p.f, p.m, p.op, p.x, ty, tn⟩).1 = out' at *
          generalize (look out ⟨p.v, p.f, p.m, p.op, p.x, ty, tn⟩).2 = ix at *
          have S6 := Lib.hid s6
          have hC6 : C0 ≤ W6.heap.size := by omega
          have hL6 : BT < W6.heap.size ∧ gU < W6.heap.size ∧ C0 + 1 < W6.heap.size ∧ wr.heap.size < W6.heap.size := by omega
          clear s6
          go_wp2_with fail
          refine HC.out.mono ?_
          rintro e w5 ⟨A7, c7, rfl, h1, h2, h3⟩
          have HN7 : Hid ((Value.slice A7 out'.length c7).ownBlock ≠ some BT ∧ (Value.slice A7 out'.length c7).ownBlock ≠ some gU) := Lib.hid ⟨fun e => by
              rcases h3 _ e with h | h
              · exact HNE.out.1 h
              · omega, fun e => by
              rcases h3 _ e with h | h
              · exact HNE.out.2 h
              · omega⟩
          have okT : putOk (C0 + 1) C0 (.slice A6 out.length c6) BT := ⟨hBL, hBM, HNE.out.1⟩
          have okU : putOk (C0 + 1) C0 (.slice A6 out.length c6) gU := ⟨hgUL, hgUM, HNE.out.2⟩
          have Z5 := Lib.hid (h2.own HZ6.out (fun t e => by injection e with e; exact e ▸ okT))
          have V5 := Lib.hid (h2.own HV6.out (fun t e => by injection e with e; exact e ▸ okU))
          have P5 := Lib.hid h1
          have B5 := Lib.hid (HB6.out.trans (h2.below (by omega) (fun t ht => ⟨by omega, by omega, fun e => by have := (HPL.out.own.lt t e).1; omega⟩)))
          have hs5 := h2.size
          clear h1 h2 h3 okT okU
          obtain ⟨z0, hz0⟩ := some_at (Z5.out.1) (k := k) (by omega)
          have cz := (Z5.out.cellAt k (by omega)).trans hz0
          have cfz := fun i => Z5.out.frozenAt i
          clear hz0
          go_wp2
          go_roundg gk
          case measure => omega
          case rel =>
            go_light
            exact ⟨k + 1, A7, c7, out', Z.set k ix, by omega, by go_num, HE, P5.out.far ((Far.refl w5 (fun t => t ≠ BT)).set_ _ (fun t h _ e => h e.symm)) (fun e => hBL e.symm) (fun e => hBM e.symm) (fun t e h => HN7.out.1 (h ▸ e)), HN7, by have := (Z5.out.stored k (.int .i64 ix)).1; rw [ints_set] at this; exact this, own_set_other V5.out (by simp [Value.ownBlock]; exact hgUB) _, B5.out.setCell (by simp; omega) _, by simp; omega, by simp; omega, by simp; omega⟩
    · obtain rfl : k = n := by omega
      have hst := HST.out
      rw [HS.out] at hst
      have HST2 := Lib.hid hst
      obtain ⟨ta, hta⟩ := some_at (show Z.length = k from by have := HZ.out.1; simpa [ints] using this) ha
      have ca := (HZ.out.cellAt a (by omega)).trans (ints_at hta)
      have HTA := Lib.hid (igetD hta)
      have l0 := HPL.out.blk.cell (i := 0) rfl
      have HO := Lib.hid HPL.out.own
      clear hst hta
      go_wp2
      go_quiet (fail)
      go_wp2
      go_returns
      exact ⟨A6, c6, out, ta, rfl, by rw [← HST2.out], by rw [← HST2.out]; exact HTA.out.symm, by rw [hC0]; exact own_dN HO.out _, by rw [hC0]; exact below_dN HBe.out _⟩
set_option maxHeartbeats 1600000 in
theorem trimFrom_c (f : Nat) (A : Option Addr) (n c : Nat) (g : List Pt) (a : Nat) (w : World) (hr : Rd w w.heap.size 7 A n (pts g)) (hg : GOk g) (ha : a < n) (hf : a < f) :
    Calls Try.prog 16 #[.slice A n c, .int .i64 a] w (RetOwn 29 7 (trimN f g a).length (pts (trimN f g a)) w) := by
  obtain ⟨R, hR⟩ : ∃ R, R = trimN f g a := ⟨_, rfl⟩
  rw [← hR]
  have HR := Lib.hid hr
  have HG := Lib.hid hg
  have HT := Lib.hid hR.symm
  clear hr hg hR
  go_enter Try.func16, Try.ntmps16
  go_wp2
  go_loopg [0, 1] f (fun gk v0 v1 wr => ∃ (A' : Option Addr) (n' c' : Nat) (g' : List Pt) (a' : Nat), v0 = .slice A' n' c' ∧ v1 = .int .i64 a' ∧ Hid (Rd wr wr.heap.size 7 A' n' (pts g')) ∧ Hid (GOk g') ∧ a' < n' ∧ a' < gk ∧ Hid (trimN gk g' a' = R) ∧ Hid (Below w.heap.size w wr))
  case atStart => exact ⟨A, n, c, g, a, rfl, rfl, HR, HG, ha, hf, HT, Lib.hid (Below.refl _ _)⟩
  case round =>
    obtain ⟨A', n', c', g', a', rfl, rfl, HR', HG', ha', hf', HT', HB⟩ := hrel
    obtain ⟨m, rfl⟩ : ∃ m, gk = m + 1 := ⟨gk - 1, by omega⟩
    have hl : g'.length = n' := by have := HR'.out.1; rw [pts_len] at this; omega
    have hN := pass_next HG'.out (a := a') (by omega)
    have hT := HT'.out
    rw [trimN] at hT
    have hbs := HB.out.size
    have hC := putAnew_c A' n' c' g' a' wr HR'.out HG'.out ha'
    generalize (passT g' (usedF g' a') (a' + 1)).1 = o0 at *
    generalize (passT g' (usedF g' a') (a' + 1)).2.getD a' 0 = t0 at *
    have HN := Lib.hid hN
    have HT2 := Lib.hid hT
    have HC := Lib.hid hC
    clear hN hT hC
    go_wp2_with fail
    refine HC.out.mono ?_
    rintro e w1 ⟨A1, c1, out, ta, rfl, ho, hta, h1, h2⟩
    subst ho
    subst hta
    obtain ⟨hgo, hn0, hn1, hn2⟩ := HN.out
    have O1 := Lib.hid h1
    have B1 := Lib.hid (below_via HB.out h2)
    have R1 := Lib.hid (Rd.of_own h1)
    have HGO := Lib.hid hgo
    have hol : out.length ≤ 1000 := by have := HG'.out.1; omega
    clear h1 h2 hgo
    by_cases hlast : ta = (out.length : Int) - 1
    · have he : out = R := by have := HT2.out; rwa [if_pos hlast] at this
      subst he
      subst hlast
      go_wp2
      go_returns
      exact ⟨_, _, rfl, own_base O1.out hbs, B1.out⟩
    · obtain ⟨tn, rfl⟩ := Int.eq_ofNat_of_zero_le hn0
      have HT3 : Hid (trimN m out tn = R) := by
        have := HT2.out
        rw [if_neg hlast, Int.toNat_natCast] at this
        exact this
      have hq : ((tn : Int) == (out.length : Int) - 1) = false := by simp; omega
      go_wp2
      go_roundg m
      case measure => omega
      case rel =>
        go_light
        exact ⟨A1, out.length, c1, out, tn, rfl, rfl, R1, HGO, by omega, by omega, HT3, B1⟩
set_option maxHeartbeats 800000 in
theorem graphTrim_c (A : Option Addr) (n c : Nat) (g : List Pt) (w : World) (hr : Rd w w.heap.size 7 A n (pts g)) (hn : n ≤ 9223372036854775807) :
    Calls Try.prog 5 #[.slice A n c] w (RetOwn 29 7 (if graphB g = true then trimN n g (n - 1) else []).length (pts (if graphB g = true then trimN n g (n - 1) else [])) w) := by
  have hl : g.length = n := by have := hr.1; rw [pts_len] at this; omega
  have HR := Lib.hid hr
  have HL := Lib.hid hl
  clear hr hl
  by_cases hb : graphB g = true
  · obtain ⟨hgo, h1⟩ := graph_ok hb
    have h120 := hgo.1
    have hn1 : n ≤ 120 ∧ 1 ≤ n := by have := HL.out; omega
    have HC := Lib.hid (fun (W : World) h => trimFrom_c n A n c g (n - 1) W h hgo (by omega) (by omega))
    have HB := Lib.hid hb
    rw [if_pos hb]
    generalize trimN n g (n - 1) = R at *
    obtain ⟨m, rfl⟩ : ∃ m, n = m + 1 := ⟨n - 1, by omega⟩
    rw [show m + 1 - 1 = m from by omega] at HC
    clear hgo h1 h120
    go_enter Try.func5, Try.ntmps5
    go_wp2_with (go_at_call 8; refine (graphOk_c A (m + 1) c g _ HR.out hn).mono ?_; rintro e w1 ⟨rfl, b1⟩; rw [HB.out]; have B1 := Lib.hid b1; clear b1)
    go_wp2_with fail
    refine (HC.out _ (HR.out.up B1.out)).mono ?_
    rintro e w2 ⟨A7, c7, rfl, h1, h2⟩
    have O5 := Lib.hid (own_base h1 B1.out.size)
    have B5 := Lib.hid (below_via B1.out h2)
    clear h1 h2
    go_wp2
    go_returns
    exact ⟨_, _, rfl, O5.out, B5.out⟩
  · have hb' : graphB g = false := by simpa using hb
    have HB := Lib.hid hb'
    rw [if_neg hb]
    clear hb hb'
    go_enter Try.func5, Try.ntmps5
    go_wp2_with (go_at_call 8; refine (graphOk_c A n c g _ HR.out hn).mono ?_; rintro e w1 ⟨rfl, b1⟩; rw [HB.out]; have B1 := Lib.hid b1; clear b1)
    go_wp2
    go_returns
    exact ⟨_, _, rfl, World.ownsRow_nil _ _ _ _, B1.out⟩
end Go.Proofs.Ytljgaepgblakhaa
