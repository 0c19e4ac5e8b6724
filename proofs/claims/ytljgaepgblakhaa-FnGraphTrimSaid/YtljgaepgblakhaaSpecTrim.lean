/- The contract of the reference's trimming. Conditions: each contract's own. -/
import Derived.Test.YtljgaepgblakhaaUsed
import Derived.Test.YtljgaepgblakhaaGraph2
namespace Go.Proofs.Ytljgaepgblakhaa
set_option linter.unusedSimpArgs false
open Go.RowKit
set_option linter.unusedVariables false
set_option linter.unnecessarySimpa false
theorem own_someE {w : World} {base e size n c : Nat} {A : Option Addr} {xs : List Value} (h : w.ownsRow base e size (.slice A n c) n xs) (hn : 0 < n) : ∃ g, A = some ⟨g, 0, none⟩ := by
  rcases h.2 with ⟨_, h0⟩ | ⟨g, cap, cur, hv, _⟩
  · omega
  · exact ⟨g, by injection hv⟩
theorem cell_kept {w w' : World} {row : Option Nat} (h : w.grownBy w' row) {b o : Nat} {v : Value} (hb : b < w.heap.size) (hr : row ≠ some b) (hc : w.cell? ⟨b, o, none⟩ = some v) : w'.cell? ⟨b, o, none⟩ = some v :=
  (World.cell?_of_block (w := w) (a := ⟨b, o, none⟩) (h.block b hb (fun e => hr e.symm))).trans hc
theorem own_empty7 (w : World) (e : TypeId) (B E size : Nat) (hE : w.heap.size = E) (hB : B ≤ E) : (w.alloc (.cells #[] e)).ownsRow B e size (.slice (some ⟨E, 0, none⟩) 0 0) 0 [] := by
  subst hE
  exact ⟨by simp, .inr ⟨w.heap.size, 0, #[], rfl, hB, heap_alloc_new w _, by omega, by unfold maxLen; omega, by simp, by simp⟩⟩
theorem ints_set (Z : List Int) (k : Nat) (x : Int) : (ints Z).set k (.int .i64 x) = ints (Z.set k x) := by simp [ints, List.map_set]
theorem igetD {Z : List Int} {k : Nat} {x : Int} (h : Z[k]? = some x) : Z.getD k 0 = x := by simp [List.getD, h]
theorem step_no {g : List Pt} {U : List Bool} {st : List Pt × List Int} {k : Nat} (h : U[k]? = some false) : stepT g U st k = st := by
  unfold stepT; split
  · rw [bgetD h]; simp
  · rfl
theorem step_leaf {g : List Pt} {U : List Bool} {st : List Pt × List Int} {k : Nat} {p : Pt} (h : U[k]? = some true) (hp : g[k]? = some p) (h0 : p.op = 0) : stepT g U st k = (ins st.1 p, st.2.set k ((st.1.idxOf p : Nat) : Int)) := by
  unfold stepT; rw [hp]; simp only; rw [if_pos (bgetD h), if_pos h0]
theorem step_look {g : List Pt} {U : List Bool} {st : List Pt × List Int} {k : Nat} {p q : Pt} (h : U[k]? = some true) (hp : g[k]? = some p) (h0 : p.op ≠ 0) (hq : led p st.2 = q) : stepT g U st k = ((look st.1 q).1, st.2.set k (look st.1 q).2) := by
  unfold stepT; rw [hp]; simp only; rw [if_pos (bgetD h), if_neg h0, hq]
theorem cset_b {w : World} {g o b j : Nat} (u : Value) (h : b ≠ g ∨ j ≠ o) : (w.setCell ⟨g, o, none⟩ u).cell? ⟨b, j, none⟩ = w.cell? ⟨b, j, none⟩ := World.cell?_setCell_other _ _ _ _ (by intro e; injection e with e1 e2; rcases h with h | h <;> omega)
theorem own_set_other {w : World} {base e size n b o : Nat} {v : Value} {xs : List Value} (h : w.ownsRow base e size v n xs) (hne : v.ownBlock ≠ some b) (u : Value) : (w.setCell ⟨b, o, none⟩ u).ownsRow base e size v n xs := h.kept (gn_set (World.grownBy.refl w (some b)) (.inl rfl) u) (.inr hne)
theorem own_old {w : World} {base e size n c : Nat} {A : Option Addr} {xs : List Value} (h : w.ownsRow base e size (.slice A n c) n xs) {X : Nat} (hX : w.heap.size ≤ X) : (Value.slice A n c).ownBlock ≠ some X := fun e => by
  have := (h.lt X e).2; omega
set_option maxHeartbeats 4000000 in
set_option maxRecDepth 100000 in
theorem l4Trim_c (f : Nat) : ∀ (A : Option Addr) (n c : Nat) (g : List Pt) (a : Nat) (w : World), Rd w w.heap.size 7 A n (pts g) → GOk g → a < n → a < f →
    Calls Try.prog 17 #[.slice A n c, .int .i64 a] w (RetOwn 29 7 (trimN f g a).length (pts (trimN f g a)) w) := by
  induction f with
  | zero => intro A n c g a w hr hg ha hf; omega
  | succ f ih =>
    intro A n c g a w hr hg ha hf
    obtain ⟨i0, hi, hz0, hz1, hz2⟩ := info_parts info_int
    have hl : g.length = n := by have := hr.1; rw [pts_len] at this; omega
    have hn : n ≤ 120 := by have := hg.1; omega
    have IH := Lib.hid ih
    have HR := Lib.hid hr
    have HG := Lib.hid hg
    have HL := Lib.hid hl
    have HN := Lib.hid (pass_next hg (a := a) (by omega))
    have HP := Lib.hid (fun k hk => pass_ok hg (a := a) (k := k) hk)
    obtain ⟨RT, hRT⟩ : ∃ R, R = trimN (f + 1) g a := ⟨_, rfl⟩
    rw [← hRT]
    have HRT := Lib.hid hRT
    have HU := Lib.hid (l4Used_c A n c g a _ hr hg ha)
    have hUl := usedF_len g a
    rw [hl] at hUl
    have HUL := Lib.hid hUl
    clear hr hg hl ih hRT hUl
    have HRT2 : Hid (RT = if (passT g (usedF g a) (a + 1)).2.getD a 0 = ((passT g (usedF g a) (a + 1)).1.length : Int) - 1 then (passT g (usedF g a) (a + 1)).1 else trimN f (passT g (usedF g a) (a + 1)).1 ((passT g (usedF g a) (a + 1)).2.getD a 0).toNat) := by
      show _ = _
      rw [HRT.out, trimN]
    clear HRT
    generalize usedF g a = U at *
    go_enter Try.func17, Try.ntmps17
    (go_wp2_with fail); (go_at_call 27; refine (HU.out).mono ?_; rintro e w1 ⟨AU, cU, rfl, oU, b1⟩; obtain ⟨gU, rfl⟩ := own_someE oU (by omega); have OU := Lib.hid oU; have B1 := Lib.hid b1; have hgU := (oU.lt gU rfl).2; have hs1 := b1.size; clear oU b1)
    have OE := Lib.hid (own_empty7 w1 29 w1.heap.size w1.heap.size 7 rfl (Nat.le_refl _))
    go_wp2_with (at_make; refine wpList_make_full _ rfl _ _ 30 rfl (w1.heap.size + 1) 3 i0 _ 1 Try.underlying30 hi hz0 hz1 .i64 .i64 (n : Int) (n : Int) n rfl rfl rfl rfl ?b2 ?b3 ?b4 ?_)
    case b2 => rw [hz2]; omega
    case b3 => unfold maxLen; omega
    case b4 => simp
    intro w2 hown2 hg2
    have hs2 := hg2.size
    simp at hs2
    have O2 := Lib.hid (OE.out.kept hg2 (.inr (by simp [Value.ownBlock])))
    have U2 := Lib.hid ((OU.out.alloc (.cells #[] 29)).kept hg2 (.inr (by simp [Value.ownBlock])))
    have hz : (madeCells #[Value.int .i64 0] n).toList = ints (List.replicate n 0) := by rw [toList_madeCells_one]; simp [ints]
    rw [hz] at hown2
    have Z2 := Lib.hid (own_base hown2 (Nat.le_succ _))
    have hZl := (hown2.lt _ rfl).2
    have B2 := Lib.hid (Below.grown (B1.out.alloc hs1 (.cells #[] 29)) hg2 (by simp; omega) (by simp))
    clear hown2 hg2 hz hi hz0 hz1 hz2 OE OU B1
    go_wp2
    generalize hH1 : w1.heap.size = H1 at *
    clear hs2
    go_loopg [8, 6] (a + 1) (fun gk i v wr => ∃ (k : Nat) (A6 : Option Addr) (c6 : Nat) (out : List Pt) (Z : List Int), gk + k = a + 1 ∧ i = .int .i64 k ∧ v = .slice A6 out.length c6 ∧ Hid (passT g U k = (out, Z)) ∧ Hid (wr.ownsRow H1 29 7 (.slice A6 out.length c6) out.length (pts out)) ∧ (Value.slice A6 out.length c6).ownBlock ≠ some (H1 + 1) ∧ Hid (wr.ownsRow H1 3 1 (.slice (some ⟨H1 + 1, 0, none⟩) n n) n (ints Z)) ∧ Hid (wr.ownsRow w.heap.size 4 1 (.slice (some ⟨gU, 0, none⟩) n cU) n (bools U)) ∧ Hid (Below w.heap.size w wr) ∧ H1 + 1 < wr.heap.size)
    case atStart => exact ⟨0, _, 0, [], List.replicate n 0, rfl, rfl, rfl, by show _ = _; rw [passT, HL.out], O2, by simp [Value.ownBlock], Z2, U2, B2, hZl⟩
    case round =>
      obtain ⟨k, A6, c6, out, Z, hgk, rfl, rfl, HS, HO, hne, HZ, HV, HBe, hz9⟩ := hrel
      have hbs := HBe.out.size
      by_cases hk : k ≤ a
      · obtain ⟨gk, rfl⟩ : ∃ m, gk = m + 1 := ⟨gk - 1, by omega⟩
        have hI := HP.out k (by rw [HL.out]; omega)
        rw [HS.out] at hI
        obtain ⟨b0, off, p, rfl, hb, hp, hpl, c0, c1, c2, c3, c4, c5, c6'⟩ := (HR.out.below HBe.out).pt (k := k) (by omega)
        obtain ⟨b, hb'⟩ := some_at HUL.out (k := k) (by omega)
        have cu := (HV.out.cellAt k (by omega)).trans (bools_at hb')
        have hpo := HG.out.2 k p hp
        have HPt := Lib.hid hp
        have HUk := Lib.hid hb'
        unfold smallP smallI at hpo
        have hil : out.length ≤ k := hI.len
        have hio : out.length ≤ 120 := hI.ok.1
        have HI := Lib.hid hI
        clear hI
        cases b with
        | false =>
          have HE : Hid (passT g U (k + 1) = (out, Z)) := by show _ = _; rw [passT, HS.out, step_no HUk.out]
          clear hpo hp hb'
          go_wp2
          go_roundg gk
          case measure => omega
          case rel =>
            go_light
            exact ⟨k + 1, A6, c6, out, Z, by omega, by go_num, rfl, HE, HO, hne, HZ, HV, HBe, hz9⟩
        | true =>
          by_cases h0 : p.op = 0
          · have HE : Hid (passT g U (k + 1) = (ins out p, Z.set k ((out.idxOf p : Nat) : Int))) := by show _ = _; rw [passT, HS.out, step_leaf HUk.out HPt.out h0]
            have hop : decide (0 < p.op) = false := by simp [h0]
            have hzl : wr.heap.size + 1 = (wr.alloc (.cells #[.int .i64 p.v, .int .i64 p.f, .int .i64 p.m, .int .i64 p.op, .int .i64 p.x, .int .i64 p.y, .int .i64 p.n] 29)).heap.size := by simp
            clear hpo hp hb' h0
            go_wp2_with fail
            refine (l4Point_c A6 out.length c6 out p H1 _ (HO.out.alloc _) (by rw [← hzl]; omega) (by omega)).mono ?_
            rintro e w5 ⟨A7, c7, rfl, h1, h2, h3⟩
            have hne7 : (Value.slice A7 (ins out p).length c7).ownBlock ≠ some (H1 + 1) := fun e => by
              rcases h3 _ e with h | h
              · exact hne h
              · rw [← hzl] at h; omega
            have Z5 := Lib.hid ((HZ.out.alloc _).kept h2 (.inr (fun e => hne e.symm)))
            have V5 := Lib.hid ((HV.out.alloc _).kept h2 (.inr (fun e => by have := (HO.out.lt gU e.symm).1; omega)))
            have O5 := Lib.hid h1
            have B5 := Lib.hid (Below.grown (HBe.out.alloc hbs _) h2 (by simp; omega) (fun b e => by have := (HO.out.lt b e).1; omega))
            have hs5 := h2.size
            simp at hs5
            clear h1 h2 h3
            obtain ⟨z0, hz0⟩ := some_at (Z5.out.1) (k := k) (by omega)
            have cz := (Z5.out.cellAt k (by omega)).trans hz0
            have cfz := fun i => Z5.out.frozenAt i
            clear hz0
            generalize ins out p = out' at *
            generalize ((out.idxOf p : Nat) : Int) = ix at *
            go_wp2
            go_roundg gk
            case measure => omega
            case rel =>
              go_light
              exact ⟨k + 1, A7, c7, out', Z.set k ix, by omega, by go_num, rfl, HE, own_set_other O5.out hne7 _, hne7, by have := (Z5.out.stored k (.int .i64 ix)).1; rw [ints_set] at this; exact this, own_set_other V5.out (by simp [Value.ownBlock]; omega) _, B5.out.setCell (by simp; omega) _, by simp; omega⟩
          · have hop : 0 < p.op := by omega
            obtain ⟨yn, hyn⟩ := Int.eq_ofNat_of_zero_le (a := p.y) (by omega)
            obtain ⟨nn, hnn⟩ := Int.eq_ofNat_of_zero_le (a := p.n) (by omega)
            have hyl : yn < n := by omega
            have hnl : nn < n := by omega
            obtain ⟨ty, hty⟩ := some_at (HI.out.tlen.trans HL.out) hyl
            obtain ⟨tn, htn⟩ := some_at (HI.out.tlen.trans HL.out) hnl
            have hq : led p Z = ⟨0, p.f, p.m, p.op, p.x, ty, tn⟩ := by
              unfold led
              rw [hyn, hnn]
              simp only [Int.toNat_natCast, igetD hty, igetD htn]
              congr 1; omega
            have HE : Hid (passT g U (k + 1) = ((look out ⟨0, p.f, p.m, p.op, p.x, ty, tn⟩).1, Z.set k (look out ⟨0, p.f, p.m, p.op, p.x, ty, tn⟩).2)) := by show _ = _; rw [passT, HS.out, step_look HUk.out HPt.out h0 hq]
            rw [hyn] at c5
            rw [hnn] at c6'
            have hX := Blk.new wr 29 [.int .i64 p.v, .int .i64 p.f, .int .i64 p.m, .int .i64 p.op, .int .i64 p.x, .int .i64 (yn : Int), .int .i64 (nn : Int)]
            have x1 := hX.cell (i := 1) rfl
            have x2 := hX.cell (i := 2) rfl
            have x3 := hX.cell (i := 3) rfl
            have x4 := hX.cell (i := 4) rfl
            have x5 := hX.cell (i := 5) rfl
            have x6 := hX.cell (i := 6) rfl
            have ty0 := ((HZ.out.alloc (.cells #[.int .i64 p.v, .int .i64 p.f, .int .i64 p.m, .int .i64 p.op, .int .i64 p.x, .int .i64 (yn : Int), .int .i64 (nn : Int)] 29)).cellAt yn (by omega)).trans (ints_at hty)
            have tn0 := ((HZ.out.alloc (.cells #[.int .i64 p.v, .int .i64 p.f, .int .i64 p.m, .int .i64 p.op, .int .i64 p.x, .int .i64 (yn : Int), .int .i64 (nn : Int)] 29)).cellAt nn (by omega)).trans (ints_at htn)
            have hnX : (Value.slice A6 out.length c6).ownBlock ≠ some wr.heap.size := own_old HO.out (Nat.le_refl _)
            have hol : out.length ≤ 1000 := by omega
            have ik0 : (0 : Int) ≤ (k : Int) := by omega
            have ik1 : (k : Int) < (n : Int) := by omega
            have hyk : yn ≠ k := by omega
            have hnk : nn ≠ k := by omega
            have HC := Lib.hid (fun (W : World) h h2 => l4Look_c A6 out.length c6 out ⟨0, p.f, p.m, p.op, p.x, ty, tn⟩ rfl H1 W h h2 hol)
            generalize (look out ⟨0, p.f, p.m, p.op, p.x, ty, tn⟩).1 = out' at *
            generalize (look out ⟨0, p.f, p.m, p.op, p.x, ty, tn⟩).2 = ix at *
            clear hpo hp hb' hq hX hty htn h0 hyn hnn
            go_wp2
            have HOd : Hid ((wr.alloc (.cells #[.int .i64 p.v, .int .i64 p.f, .int .i64 p.m, .int .i64 p.op, .int .i64 p.x, .int .i64 (yn : Int), .int .i64 (nn : Int)] 29)).drew.ownsRow H1 29 7 (.slice A6 out.length c6) out.length (pts out)) := Lib.hid (HO.out.alloc _)
            have HZd : Hid ((wr.alloc (.cells #[.int .i64 p.v, .int .i64 p.f, .int .i64 p.m, .int .i64 p.op, .int .i64 p.x, .int .i64 (yn : Int), .int .i64 (nn : Int)] 29)).drew.ownsRow H1 3 1 (.slice (some ⟨H1 + 1, 0, none⟩) n n) n (ints Z)) := Lib.hid (HZ.out.alloc _)
            have HVd : Hid ((wr.alloc (.cells #[.int .i64 p.v, .int .i64 p.f, .int .i64 p.m, .int .i64 p.op, .int .i64 p.x, .int .i64 (yn : Int), .int .i64 (nn : Int)] 29)).drew.ownsRow w.heap.size 4 1 (.slice (some ⟨gU, 0, none⟩) n cU) n (bools U)) := Lib.hid (HV.out.alloc _)
            have HBd : Hid (Below w.heap.size w (wr.alloc (.cells #[.int .i64 p.v, .int .i64 p.f, .int .i64 p.m, .int .i64 p.op, .int .i64 p.x, .int .i64 (yn : Int), .int .i64 (nn : Int)] 29)).drew) := Lib.hid (HBe.out.alloc hbs _).drew
            go_region_held3 (fun w' => w'.cell? ⟨wr.heap.size, 1, none⟩ = some (.int .i64 p.f) ∧ w'.cell? ⟨wr.heap.size, 2, none⟩ = some (.int .i64 p.m) ∧ w'.cell? ⟨wr.heap.size, 3, none⟩ = some (.int .i64 p.op) ∧ w'.cell? ⟨wr.heap.size, 4, none⟩ = some (.int .i64 p.x) ∧ w'.cell? ⟨wr.heap.size, 5, none⟩ = some (.int .i64 (yn : Int)) ∧ w'.cell? ⟨wr.heap.size, 6, none⟩ = some (.int .i64 (nn : Int)) ∧ w'.cell? ⟨H1 + 1, yn, none⟩ = some (.int .i64 ty) ∧ w'.cell? ⟨H1 + 1, nn, none⟩ = some (.int .i64 tn))
              (first | go_keep | exact KS | (refine ⟨(cset_b _ (.inl (by omega))).trans KS.1, (cset_b _ (.inl (by omega))).trans KS.2.1, (cset_b _ (.inl (by omega))).trans KS.2.2.1, (cset_b _ (.inl (by omega))).trans KS.2.2.2.1, (cset_b _ (.inl (by omega))).trans KS.2.2.2.2.1, (cset_b _ (.inl (by omega))).trans KS.2.2.2.2.2.1, (cset_b _ (.inr hyk)).trans KS.2.2.2.2.2.2.1, (cset_b _ (.inr hnk)).trans KS.2.2.2.2.2.2.2⟩))
              (first
                | (go_at_call 28; refine (HC.out _ HOd.out (by simp; omega)).mono ?_; rintro e w5 ⟨A7, c7, rfl, h1, h2, h3⟩; have KS := And.intro (cell_kept h2 (by simp) hnX x1) (And.intro (cell_kept h2 (by simp) hnX x2) (And.intro (cell_kept h2 (by simp) hnX x3) (And.intro (cell_kept h2 (by simp) hnX x4) (And.intro (cell_kept h2 (by simp) hnX x5) (And.intro (cell_kept h2 (by simp) hnX x6) (And.intro (cell_kept h2 (by simp; omega) hne ty0) (cell_kept h2 (by simp; omega) hne tn0))))))); have hne7 : (Value.slice A7 out'.length c7).ownBlock ≠ some (H1 + 1) := (fun e => by rcases h3 _ e with h | h; exact hne h; simp at h; omega); have Z5 := Lib.hid (HZd.out.kept h2 (.inr (fun e => hne e.symm))); have V5 := Lib.hid (HVd.out.kept h2 (.inr (fun e => by have := (HO.out.lt gU e.symm).1; omega))); have O5 := Lib.hid h1; have B5 := Lib.hid (Below.grown HBd.out h2 (by simp; omega) (fun b e => by have := (HO.out.lt b e).1; omega)); have hs5 := h2.size; simp at hs5; obtain ⟨z0, hz0⟩ := some_at (Z5.out.1) (k := k) (by omega); have cz := (Z5.out.cellAt k (by omega)).trans hz0; have cfz := fun i => Z5.out.frozenAt i; clear hz0 h1 h2 h3))
            go_wp2
            go_roundg gk
            case measure => omega
            case rel =>
              go_light
              exact ⟨k + 1, A7, c7, out', Z.set k ix, by omega, by go_num, rfl, HE, own_set_other O5.out hne7 _, hne7, by have := (Z5.out.stored k (.int .i64 ix)).1; rw [ints_set] at this; exact this, own_set_other V5.out (by simp [Value.ownBlock]; omega) _, B5.out.setCell (by simp; omega) _, by simp; omega⟩
      · obtain rfl : k = a + 1 := by omega
        have hN := HN.out
        rw [HS.out] at hN
        have hR2 := HRT2.out
        rw [HS.out] at hR2
        have hI := HP.out (a + 1) (by rw [HL.out]; omega)
        rw [HS.out] at hI
        obtain ⟨hgo, hn0, hn1, hn2⟩ := hN
        simp only at hgo hn0 hn1 hn2 hR2
        obtain ⟨ta, hta⟩ := some_at (hI.tlen.trans HL.out) (show a < n by omega)
        rw [igetD hta] at hn0 hn1 hR2
        have ca := (HZ.out.cellAt a (by omega)).trans (ints_at hta)
        have HR2 := Lib.hid hR2
        have HGO := Lib.hid hgo
        clear hta hI hR2 hgo
        by_cases hlast : ta = (out.length : Int) - 1
        · have he : RT = out := by rw [HR2.out, if_pos hlast]
          subst he
          subst hlast
          go_wp2
          go_returns
          exact ⟨_, _, rfl, own_base HO.out (by omega), HBe.out⟩
        · have he : RT = trimN f out ta.toNat := by rw [HR2.out, if_neg hlast]
          obtain ⟨tn, rfl⟩ := Int.eq_ofNat_of_zero_le hn0
          rw [Int.toNat_natCast] at he
          have HC := Lib.hid (IH.out A6 out.length c6 out tn wr (Rd.of_own HO.out) HGO.out (by omega) (by omega))
          rw [← he] at HC
          clear he
          have hq : ((tn : Int) == (out.length : Int) - 1) = false := by simp; omega
          go_wp2_with fail
          refine HC.out.mono ?_
          rintro e w5 ⟨A7, c7, rfl, h1, h2⟩
          have O5 := Lib.hid (own_base h1 hbs)
          have B5 := Lib.hid (below_via HBe.out h2)
          clear h1 h2
          go_wp2
          go_returns
          exact ⟨_, _, rfl, O5.out, B5.out⟩
set_option maxHeartbeats 800000 in
theorem specGraphTrim_c (A : Option Addr) (n c : Nat) (g : List Pt) (w : World) (hr : Rd w w.heap.size 7 A n (pts g)) (hn : n ≤ 9223372036854775807) :
    Calls Try.prog 7 #[.slice A n c] w (RetOwn 29 7 (if graphB g = true then trimN n g (n - 1) else []).length (pts (if graphB g = true then trimN n g (n - 1) else [])) w) := by
  have hl : g.length = n := by have := hr.1; rw [pts_len] at this; omega
  have HR := Lib.hid hr
  have HL := Lib.hid hl
  clear hr hl
  by_cases hb : graphB g = true
  · obtain ⟨hgo, h1⟩ := graph_ok hb
    have h120 := hgo.1
    have hn1 : n ≤ 120 ∧ 1 ≤ n := by have := HL.out; omega
    have HC := Lib.hid (fun (W : World) h => l4Trim_c n A n c g (n - 1) W h hgo (by omega) (by omega))
    have HB := Lib.hid hb
    rw [if_pos hb]
    generalize trimN n g (n - 1) = R at *
    obtain ⟨m, rfl⟩ : ∃ m, n = m + 1 := ⟨n - 1, by omega⟩
    rw [show m + 1 - 1 = m from by omega] at HC
    clear hgo h1 h120
    go_enter Try.func7, Try.ntmps7
    go_wp2_with (go_at_call 9; refine (specGraphOk_c A (m + 1) c g _ HR.out hn).mono ?_; rintro e w1 ⟨rfl, b1⟩; rw [HB.out]; have B1 := Lib.hid b1; clear b1)
    go_wp2_with fail
    refine (HC.out _ (HR.out.up B1.out)).mono ?_
    rintro e w2 ⟨A7, c7, rfl, h1, h2⟩
    have O5 := Lib.hid (own_base h1 B1.out.size)
    have B5 := Lib.hid (below_via B1.out h2)
    clear h1 h2
    go_wp2
    go_returns
    exact ⟨_, _, rfl, O5.out, B5.out⟩
  · have hb' : graphB g = false := by simpa using hb
    have HB := Lib.hid hb'
    rw [if_neg hb]
    clear hb hb'
    go_enter Try.func7, Try.ntmps7
    go_wp2_with (go_at_call 9; refine (specGraphOk_c A n c g _ HR.out hn).mono ?_; rintro e w1 ⟨rfl, b1⟩; rw [HB.out]; have B1 := Lib.hid b1; clear b1)
    go_wp2
    go_returns
    exact ⟨_, _, rfl, own_base (own_empty7 w1 29 w1.heap.size w1.heap.size 7 rfl (Nat.le_refl _)) B1.out.size, B1.out.alloc B1.out.size _⟩
end Go.Proofs.Ytljgaepgblakhaa
