/- Parts of laws in one text. Conditions: each lemma's own. -/
import Derived.Test.YtflhniobbdanjaaDoorJb9dbe6b717
import Derived.Test.YtflhniobbdanjaaDoorJf3b74957f5
import Derived.Test.YtflhniobbdanjaaDoorRegInv2
namespace Go.Proofs.YtflhniobbdanjaaDoor
set_option linter.unusedSimpArgs false
open Go.RowKit
set_option linter.unusedVariables false
set_option linter.unnecessarySimpa false
set_option maxRecDepth 20000
theorem own_ge4 {w : World} {base e size n c : Nat} {A : Option Addr} {xs : List Value} (h : w.ownsRow base e size (.slice A n c) n xs) : ∀ b, (Value.slice A n c).ownBlock = some b → base ≤ b := fun b hb => (h.lt b hb).1
theorem test_le {l r : List UInt8} {t : Tst} (h : rdTest l = some (t, r)) : r.length ≤ l.length := by
  rw [(test_iff.1 h).1]; simp
theorem rdTests_step {k : Nat} {l : List UInt8} (hd : l ≠ []) : rdTests (k + 1) l = match rdTest l with | none => none | some (t, r) => (rdTests k r).map (fun x => t :: x) := by
  rw [rdTests, if_neg hd]
  cases rdTest l with
  | none => rfl
  | some q =>
    obtain ⟨t, r⟩ := q
    simp only
    cases rdTests k r with
    | none => rfl
    | some ts => rfl
/-- What a rule is, where its tests are left to be read. -/
def ruleF (v lo hi : Int) (T : Option (List Tst)) : Option Rl := match T with
  | none => none
  | some ts => some ⟨v, lo, hi, ts⟩
theorem rdRule_tail {l l1 l2 l3 l4 : List UInt8} {v lo hi : Int} (e1 : rdVerdict l = some (v, l1)) (e2 : skP [32] l1 = some l2) (e3 : rdWord l2 = some (lo, l3)) (e4 : rdHigh lo l3 = some (hi, l4)) : rdRule l = ruleF v lo hi (rdTests 4 l4) := by
  unfold rdRule ruleF
  simp only [e1, e2, e3, e4]
  cases rdTests 4 l4 <;> rfl
theorem testC_no (g : Nat) (l : List UInt8) (ln : Int) (hl : l.length ≤ 1000000) (w : World) (h : Blk w g 53 [.string (str l), .int .i64 ln]) (e : rdTest l = none) :
    Calls Tryd.prog 49 #[.pointer (some ⟨g, 0, none⟩)] w (fun e w' => e = .panicked (lineF 45 ln) ∧ w.grownBy w' (some g)) :=
  (testC_c g l ln hl w h).mono (fun e' w' h' => by
    rcases h' with ⟨t, r, h1, _⟩ | ⟨_, h2⟩
    · rw [e] at h1; cases h1
    · exact h2)
theorem testC_yes (g : Nat) (l r : List UInt8) (t : Tst) (ln : Int) (hl : l.length ≤ 1000000) (w : World) (h : Blk w g 53 [.string (str l), .int .i64 ln]) (e : rdTest l = some (t, r)) :
    Calls Tryd.prog 49 #[.pointer (some ⟨g, 0, none⟩)] w (fun e w' => e = .returned (tstV t) ∧ Blk w' g 53 [.string (str r), .int .i64 ln] ∧ w.grownBy w' (some g)) :=
  (testC_c g l ln hl w h).mono (fun e' w' h' => by
    rcases h' with ⟨t', r', h1, h2⟩ | ⟨h1, _⟩
    · rw [e] at h1
      injection h1 with h1
      injection h1 with h1 h3
      subst h1 h3
      exact h2
    · rw [e] at h1; cases h1)
theorem verdictC_yes (g : Nat) (l r : List UInt8) (v ln : Int) (w : World) (h : Blk w g 53 [.string (str l), .int .i64 ln]) (e : rdVerdict l = some (v, r)) :
    Calls Tryd.prog 46 #[.pointer (some ⟨g, 0, none⟩)] w (fun e w' => e = .returned (.tuple #[.int .i64 v, .bool true]) ∧ Blk w' g 53 [.string (str r), .int .i64 ln] ∧ w.grownBy w' (some g)) :=
  (verdictC_c g l ln w h).mono (fun e' w' h' => by
    rcases h' with ⟨t', r', h1, h2⟩ | ⟨h1, _⟩
    · rw [e] at h1
      injection h1 with h1
      injection h1 with h1 h3
      subst h1 h3
      exact h2
    · rw [e] at h1; cases h1)
theorem verdictC_no (g : Nat) (l : List UInt8) (ln : Int) (w : World) (h : Blk w g 53 [.string (str l), .int .i64 ln]) (e : rdVerdict l = none) :
    Calls Tryd.prog 46 #[.pointer (some ⟨g, 0, none⟩)] w (fun e w' => e = .returned (.tuple #[.int .i64 0, .bool false]) ∧ Blk w' g 53 [.string (str l), .int .i64 ln] ∧ w.grownBy w' (some g)) :=
  (verdictC_c g l ln w h).mono (fun e' w' h' => by
    rcases h' with ⟨t', r', h1, _⟩ | ⟨_, h2⟩
    · rw [e] at h1; cases h1
    · exact h2)
set_option maxHeartbeats 4000000 in
set_option maxRecDepth 100000 in
theorem ruleC_c (g : Nat) (l : List UInt8) (ln : Int) (hl : l.length ≤ 1000000) (w : World) (h : Blk w g 53 [.string (str l), .int .i64 ln]) :
    Calls Tryd.prog 24 #[.pointer (some ⟨g, 0, none⟩)] w (fun e w' => (∃ (r : Rl) (TA : Option Addr) (c : Nat), rdRule l = some r ∧ e = .returned (.agg #[.int .i64 r.v, .int .i64 r.lo, .int .i64 r.hi, .slice TA r.ts.length c]) ∧ w'.ownsRow w.heap.size 67 4 (.slice TA r.ts.length c) r.ts.length (tsts r.ts) ∧ w.grownBy w' (some g)) ∨
      (rdRule l = none ∧ e = .panicked (lineF 45 ln) ∧ w.grownBy w' (some g))) := by
  obtain ⟨j0, hj0, hy0, hy1, hy2⟩ := info_parts info_test4
  have hgl := h.lt
  have H0 := Lib.hid h
  have HA0 := Lib.hid (Blk.new w 40 [.int .i64 0, .int .i64 0, .int .i64 0, .slice none 0 0])
  clear h
  go_enter Tryd.func24, Tryd.ntmps24
  cases e1 : rdVerdict l with
  | none =>
    (go_wp2_with fail); (go_at_call 46; refine (verdictC_no g l ln _ (H0.out.alloc _) e1).mono ?_; rintro e w1 ⟨rfl, hb, hg⟩; skip)
    (go_wp2_with fail); (go_at_call 23; refine (need_no g _ ln _ hb).mono ?_; rintro e w2 ⟨rfl, rfl⟩; skip)
    exact ⟨rfl, .inr ⟨by unfold rdRule; simp only [e1], rfl, gr_via (gr_alloc (gr_refl _ _) _) hg⟩⟩
  | some q =>
    obtain ⟨v, l1⟩ := q
    have hl1 : l1.length ≤ l.length := by rw [(verdict_iff.1 e1).2]; simp
    (go_wp2_with fail); (go_at_call 46; refine (verdictC_yes g l l1 v ln _ (H0.out.alloc _) e1).mono ?_; rintro e w1 ⟨rfl, hb, hg⟩; skip)
    have B1 := Lib.hid hb
    have A1 := Lib.hid (HA0.out.other hg (by simp; omega))
    have G1 := Lib.hid (gr_via (gr_alloc (gr_refl w g) _) hg)
    have hs1 := hg.size
    simp at hs1
    clear hb hg
    cases e2 : skP [32] l1 with
    | none =>
      (go_wp2_with fail); (go_at_call 47; refine (skipC_no g l1 [32] ln _ B1.out e2).mono ?_; rintro e w2 ⟨rfl, hb, hg⟩; skip)
      (go_wp2_with fail); (go_at_call 23; refine (need_no g _ ln _ hb).mono ?_; rintro e w3 ⟨rfl, rfl⟩; skip)
      exact ⟨rfl, .inr ⟨by unfold rdRule; simp only [e1, e2], rfl, gr_via G1.out hg⟩⟩
    | some l2 =>
      have hl2 := skP_le e2
      (go_wp2_with fail); (go_at_call 47; refine (skipC_yes g l1 [32] l2 ln _ B1.out e2).mono ?_; rintro e w2 ⟨rfl, hb, hg⟩; skip)
      have B2 := Lib.hid hb
      have A2 := Lib.hid (A1.out.other hg (by simp; omega))
      have G2 := Lib.hid (gr_via G1.out hg)
      have hs2 := hg.size
      clear hb hg A1 G1
      (go_wp2_with fail); (go_at_call 23; refine (need_yes g _ ln _ B2.out).mono ?_; rintro e w3 ⟨rfl, rfl⟩; skip)
      cases e3 : rdWord l2 with
      | none =>
        (go_wp2_with fail); (go_at_call 48; refine (wordC_no g l2 ln (by omega) _ B2.out e3).mono ?_; rintro e w4 ⟨rfl, hg⟩; skip)
        exact ⟨rfl, .inr ⟨by unfold rdRule; simp only [e1, e2, e3], rfl, gr_via G2.out hg⟩⟩
      | some q =>
        obtain ⟨lo, l3⟩ := q
        have hl3 := word_le e3
        (go_wp2_with fail); (go_at_call 48; refine (wordC_yes g l2 l3 lo ln (by omega) _ B2.out e3).mono ?_; rintro e w4 ⟨rfl, hb, hg⟩; skip)
        have B4 := Lib.hid hb
        have A4 := Lib.hid (A2.out.other hg (by simp; omega))
        have G4 := Lib.hid (gr_via G2.out hg)
        have hs4 := hg.size
        clear hb hg A2 G2
        have T4 := Lib.hid (Blk.new w4 40 [.int .i64 v, .int .i64 lo, .int .i64 lo, .slice none 0 0])
        have B4' := Lib.hid (B4.out.alloc (.cells #[.int .i64 v, .int .i64 lo, .int .i64 lo, .slice none 0 0] 40))
        have A4' := Lib.hid (A4.out.alloc (.cells #[.int .i64 v, .int .i64 lo, .int .i64 lo, .slice none 0 0] 40))
        have G4' := Lib.hid (gr_alloc G4.out (.cells #[.int .i64 v, .int .i64 lo, .int .i64 lo, .slice none 0 0] 40))
        clear B4 A4 G4
        cases e4 : skP [45] l3 with
        | none =>
          have e5 : rdHigh lo l3 = some (lo, l3) := by unfold rdHigh; simp only [e4]
          have rdR := Lib.hid (rdRule_tail e1 e2 e3 e5)
          (go_wp2_with fail); (go_at_call 47; refine (skipC_no g l3 [45] ln _ B4'.out e4).mono ?_; rintro e w5 ⟨rfl, hb, hg⟩; skip)
          have B5 := Lib.hid hb
          have A5 := Lib.hid (A4'.out.other hg (by simp; omega))
          have T5 := Lib.hid (T4.out.other hg (by simp; omega))
          have G5 := Lib.hid (gr_via G4'.out hg)
          have hs5 := hg.size
          simp at hs5
          clear hb hg B4' A4' G4' T4
          obtain ⟨rb, hrb0⟩ : ∃ rb, rb = w4.heap.size := ⟨_, rfl⟩
          rw [← hrb0] at T5 hs5
          simp only [← hrb0]
          have htg : rb ≠ g := by omega
          have htw : w.heap.size < rb := by omega
          clear hrb0
          have HT0 : Hid (rdTests 4 l3 = (rdTests 4 l3).map (fun x => [] ++ x)) := Lib.hid (by simp)
          go_wp2_with fail
          go_loopg [] 4 (fun gk wr => ∃ (n : Nat) (TA : Option Addr) (c : Nat) (ts : List Tst) (l' : List UInt8), gk + n = 4 ∧ l'.length ≤ 1000000 ∧ rb < wr.heap.size ∧ Hid (rdTests 4 l3 = (rdTests gk l').map (fun x => ts ++ x)) ∧ Hid (wr.ownsRow (rb + 1) 67 4 (.slice TA n c) n (tsts ts)) ∧ Hid (Blk wr g 53 [.string (str l'), .int .i64 ln]) ∧ Hid (Blk wr rb 40 [.int .i64 v, .int .i64 lo, .int .i64 lo, .slice TA n c]) ∧ Hid (Blk wr w.heap.size 40 [.int .i64 0, .int .i64 0, .int .i64 0, .slice none 0 0]) ∧ Hid (w.grownBy wr (some g)))
          case atStart => exact ⟨0, none, 0, [], l3, rfl, by omega, by have := T5.out.lt; omega, HT0, Lib.hid ⟨rfl, .inl ⟨rfl, rfl⟩⟩, B5, T5, A5, G5⟩
          case round =>
            obtain ⟨n, TA, c, ts, l', hgk, hl', hrb, HR, HO, HB, HY, HA, HG⟩ := hrel
            have HOB := own_ge4 HO.out
            have HOB := Lib.hid HOB
            have y0 := HY.out.cell (i := 0) rfl
            have y1 := HY.out.cell (i := 1) rfl
            have y2 := HY.out.cell (i := 2) rfl
            have y3 := HY.out.cell (i := 3) rfl
            have yf := HY.out.free
            have htl : ts.length = n := by have := HO.out.1; rw [tsts_len] at this; omega
            have HTL := Lib.hid htl
            clear htl
            by_cases hd : l' = []
            · have hdd : decide (l' = []) = true := by simpa using hd
              have hts : rdTests 4 l3 = some ts := by rw [HR.out, hd]; cases gk <;> simp [rdTests]
              have HTS := Lib.hid hts
              have HDN := Lib.hid (done_c g l' ln wr HB.out)
              rw [hdd] at HDN
              clear hd hdd hts
              (go_wp2_with fail); (go_at_call 26; refine (HDN.out).mono ?_; rintro e w7 ⟨rfl, rfl⟩; skip)
              have a0 := HA.out.cell (i := 0) rfl
              have a1 := HA.out.cell (i := 1) rfl
              have a2 := HA.out.cell (i := 2) rfl
              have a3 := HA.out.cell (i := 3) rfl
              have af := HA.out.free
              go_wp2
              refine bodyPost_ret (v := .agg #[.int .i64 v, .int .i64 lo, .int .i64 lo, .slice TA n c]) (by simp [results, Tryd.results24, go_sem, a0, a1, a2, a3]) rfl ?_
              go_light
              refine .inl ⟨⟨v, lo, lo, ts⟩, TA, c, rdR.out.trans (by unfold ruleF; simp only [HTS.out]), by rw [HTL.out], ?_, ?_⟩
              · rw [HTL.out]
                exact own_base (ownsRow_setCell_below (ownsRow_setCell_below (ownsRow_setCell_below (ownsRow_setCell_below HO.out (a := ⟨w.heap.size, 0, none⟩) (by simp; omega) _) (a := ⟨w.heap.size, 1, none⟩) (by simp; omega) _) (a := ⟨w.heap.size, 2, none⟩) (by simp; omega) _) (a := ⟨w.heap.size, 3, none⟩) (by simp; omega) _) (by omega)
              · exact gr_set (gr_set (gr_set (gr_set HG.out (p := ⟨w.heap.size, 0, none⟩) (.inr (Nat.le_refl _)) _) (p := ⟨w.heap.size, 1, none⟩) (.inr (Nat.le_refl _)) _) (p := ⟨w.heap.size, 2, none⟩) (.inr (Nat.le_refl _)) _) (p := ⟨w.heap.size, 3, none⟩) (.inr (Nat.le_refl _)) _
            · have hdd : decide (l' = []) = false := by simpa using hd
              have HDN := Lib.hid (done_c g l' ln wr HB.out)
              rw [hdd] at HDN
              have HD := Lib.hid hd
              clear hdd hd
              (go_wp2_with fail); (go_at_call 26; refine (HDN.out).mono ?_; rintro e w7 ⟨rfl, rfl⟩; skip)
              by_cases hk : gk = 0
              · subst hk
                obtain rfl : n = 4 := by omega
                (go_wp2_with fail); (go_at_call 23; refine (need_no g _ ln _ HB.out).mono ?_; rintro e w8 ⟨rfl, rfl⟩; skip)
                exact ⟨rfl, .inr ⟨rdR.out.trans (by unfold ruleF; rw [HR.out, rdTests, if_neg HD.out]; rfl), rfl, HG.out⟩⟩
              · obtain ⟨G, rfl⟩ : ∃ j, gk = j + 1 := ⟨gk - 1, by omega⟩
                have hn4 : decide ((n : Int) < 4) = true := by simp; omega
                (go_wp2_with fail); (go_at_call 23; refine (need_yes g _ ln _ HB.out).mono ?_; rintro e w8 ⟨rfl, rfl⟩; skip)
                have hst := rdTests_step (k := G) HD.out
                cases e9 : rdTest l' with
                | none =>
                  rw [e9] at hst
                  have HST := Lib.hid hst
                  clear hst
                  go_wp2_with fail
                  refine wp_region_invG [some 54, some 55, some 56, some 57, some 58, some 59, some 60, none]
                    (fun _ W0 => Blk W0 g 53 [.string (str l'), .int .i64 ln] ∧ w.grownBy W0 (some g) ∧ W0.cell? ⟨rb, 3, none⟩ = some (.slice TA n c))
                    (fun j x _ => match j with | 0 => x = .pointer (some ⟨rb, 3, none⟩) | 2 => x = .pointer (some ⟨g, 0, none⟩) | 3 => False | 4 => False | 5 => False | _ => True) (by kernel_rfl) (by kernel_rfl) ⟨HB.out.drew, gr_drew HG.out, y3⟩ ?_ ?_
                  · simp only [setAll, putS, List.zipIdx_cons, List.zipIdx_nil, List.foldl_cons, List.foldl_nil, Nat.reduceAdd, List.setIfInBounds_toArray, List.set_cons_zero, List.set_cons_succ]
                    refine ⟨fun u w0 c0 hc0 hW hd K hK => if_yes rfl ?_, ?_⟩
                    · go_simp
                      refine ka (hK _ w0 hW (fun _ _ h => h) rfl) ?_
                      simp [updU, *]
                    refine ⟨fun u w0 c0 hc0 hW hd K hK => if_yes rfl ?_, ?_⟩
                    · have e0 : u 0 = .pointer (some ⟨rb, 3, none⟩) := hd 0 (of_decide_eq_true (by kernel_rfl))
                      have hc3 := hW.2.2
                      go_simp
                      refine ka (hK (.slice TA n c) w0 hW (fun _ _ h => h) trivial) ?_
                      simp [updU, *]
                    refine ⟨fun u w0 c0 hc0 hW hd K hK => if_yes rfl ?_, ?_⟩
                    · go_simp
                      refine ka (hK _ w0 hW (fun _ _ h => h) rfl) ?_
                      simp [updU, *]
                    refine ⟨fun u w0 c0 hc0 hW hd K hK => if_yes rfl ?_, ?_⟩
                    · have e2 : u 2 = .pointer (some ⟨g, 0, none⟩) := hd 2 (of_decide_eq_true (by kernel_rfl))
                      go_simp
                      go_at_call 49
                      refine (testC_no g l' ln hl' _ hW.1 e9).mono ?_
                      rintro e w9 ⟨rfl, hg⟩
                      exact ⟨rfl, .inr ⟨rdR.out.trans (by unfold ruleF; rw [HR.out, HST.out]; rfl), rfl, gr_via hW.2.1 hg⟩⟩
                    refine ⟨fun u w0 c0 hc0 hW hd K hK => (hd 3 (of_decide_eq_true (by kernel_rfl)) : False).elim, ?_⟩
                    refine ⟨fun u w0 c0 hc0 hW hd K hK => (hd 4 (of_decide_eq_true (by kernel_rfl)) : False).elim, ?_⟩
                    refine ⟨fun u w0 c0 hc0 hW hd K hK => if_yes rfl ?_, ?_⟩
                    · go_simp
                      refine ka (hK (.pointer (some ⟨rb, 3, none⟩)) w0 hW (fun _ _ h => h) trivial) ?_
                      simp [updU, *]
                    refine ⟨fun u w0 c0 hc0 hW hd K hK => (hd 5 (of_decide_eq_true (by kernel_rfl)) : False).elim, ?_⟩
                    exact trivial
                  · intro u w0 hW hV
                    exact (hV 3 (by decide) : False).elim
                | some q =>
                  obtain ⟨⟨tf, tm, top, tx⟩, r⟩ := q
                  rw [e9] at hst
                  have HST := Lib.hid hst
                  have hr9 := test_le e9
                  clear hst
                  have hn10 : n ≤ 4 := by omega
                  go_wp2_with fail
                  go_region_law (first
                    | (refine step_append_rd _ (by rfl) _ _ _ (by rfl) (rb + 1) 67 j0 _ 4 32 Tryd.underlying38 hj0 hy0 hy1 hy2 rfl (by omega) (.slice TA n c) n (tsts ts) (by rfl) (HR9.out.alloc _) (w9.heap.size + 1) (some ⟨w9.heap.size, 0, none⟩) 1 1 _ (by rfl) (rd_tst w9 ⟨tf, tm, top, tx⟩ _) (one_tcell _) (by unfold maxLen; omega) (by omega) (by simp; omega) ?_; intro A10 c10 w10 ho10 hg10 ha10; have A10' := Lib.hid ((A9.out.alloc _).other hg10 (fun e => by have := HOB.out _ e; omega)); have B10 := Lib.hid ((B9.out.alloc _).other hg10 (fun e => by have := HOB.out _ e; omega)); have Y10 := Lib.hid ((Y9.out.alloc _).other hg10 (fun e => by have := HOB.out _ e; omega)); have y30 := Y10.out.cell (i := 3) rfl; have yf0 := Y10.out.free; have hs10 := hg10.size; simp at hs10; have G10 := Lib.hid (gr_grown (gr_alloc G9.out _) hg10 (fun b e => .inr (by have := HOB.out _ e; omega))); have R10 := Lib.hid ho10; clear ho10 hg10 ha10)
                    | (go_simp; go_at_call 49; refine (testC_yes g l' r ⟨tf, tm, top, tx⟩ ln hl' _ HB.out.drew e9).mono ?_; rintro e w9 ⟨rfl, hb, hg⟩; have k9 := gr_via (gr_drew (gr_refl _ g)) hg; have HR9 := Lib.hid (own_gr HO.out k9 (by omega)); have A9 := Lib.hid (HA.out.other k9 (by simp; omega)); have B9 := Lib.hid hb; have Y9 := Lib.hid (HY.out.other k9 (by simp; omega)); have y39 := Y9.out.cell (i := 3) rfl; have yf9 := Y9.out.free; have hs9 := k9.size; have z9 : rb < w9.heap.size := (by omega); have G9 := Lib.hid (gr_via HG.out k9); unfold tstV; clear hg hb k9))
                  all_goals
                    go_wp2
                    go_roundg G
                    case measure => omega
                    case rel =>
                      go_light
                      refine ⟨n + 1, A10, c10, ts ++ [⟨tf, tm, top, tx⟩], r, by omega, by omega, by simp; omega, Lib.hid ?_, Lib.hid ?_, B10.out.far (by simp; omega) _, Y10.out.set_ 3 _, A10'.out.far (by simp; omega) _, gr_set G10.out (.inr (by simp; omega)) _⟩
                      · rw [HR.out, HST.out]
                        cases rdTests G r <;> simp
                      · rw [tsts_add]; exact ownsRow_setCell_below R10.out (a := ⟨rb, 3, none⟩) (by simp) _
        | some l3b =>
          have hl3b := skP_le e4
          (go_wp2_with fail); (go_at_call 47; refine (skipC_yes g l3 [45] l3b ln _ B4'.out e4).mono ?_; rintro e w5 ⟨rfl, hb, hg⟩; skip)
          have B5 := Lib.hid hb
          have A5 := Lib.hid (A4'.out.other hg (by simp; omega))
          have T5 := Lib.hid (T4.out.other hg (by simp; omega))
          have G5 := Lib.hid (gr_via G4'.out hg)
          have hs5 := hg.size
          simp at hs5
          clear hb hg B4' A4' G4' T4
          obtain ⟨rb, hrb0⟩ : ∃ rb, rb = w4.heap.size := ⟨_, rfl⟩
          rw [← hrb0] at T5 hs5
          simp only [← hrb0]
          have htg : rb ≠ g := by omega
          have htw : w.heap.size < rb := by omega
          clear hrb0
          cases e5 : rdWord l3b with
          | none =>
            have e6 : rdHigh lo l3 = none := by unfold rdHigh; simp only [e4, e5]
            (go_wp2_with fail); (go_at_call 48; refine (wordC_no g l3b ln (by omega) _ B5.out e5).mono ?_; rintro e w6 ⟨rfl, hg⟩; skip)
            exact ⟨rfl, .inr ⟨by unfold rdRule; simp only [e1, e2, e3, e6], rfl, gr_via G5.out hg⟩⟩
          | some q =>
            obtain ⟨hi, l4⟩ := q
            have hl4 := word_le e5
            (go_wp2_with fail); (go_at_call 48; refine (wordC_yes g l3b l4 hi ln (by omega) _ B5.out e5).mono ?_; rintro e w6 ⟨rfl, hb, hg⟩; skip)
            have B6 := Lib.hid (Blk.far hb (p := ⟨rb, 2, none⟩) (by simp; omega) (.int .i64 hi))
            have T6 := Lib.hid ((T5.out.other hg (by simp; omega)).set_ 2 (.int .i64 hi))
            have A6 := Lib.hid ((A5.out.other hg (by simp; omega)).far (p := ⟨rb, 2, none⟩) (by simp; omega) (.int .i64 hi))
            have G6 := Lib.hid (gr_set (gr_via G5.out hg) (p := ⟨rb, 2, none⟩) (.inr (by simp; omega)) (.int .i64 hi))
            have T6' := T5.out.other hg (by simp; omega)
            have t0 := T6'.cell (i := 0) rfl
            have t1 := T6'.cell (i := 1) rfl
            have t2 := T6'.cell (i := 2) rfl
            have t3 := T6'.cell (i := 3) rfl
            have tf := T6'.free
            have hs6 := hg.size
            (try simp at hs6)
            clear hb hg T6' B5 T5 A5 G5
            by_cases hm : lo < hi
            · have e6 : rdHigh lo l3 = some (hi, l4) := by unfold rdHigh; simp only [e4, e5]; rw [if_pos hm]
              have hm0 : decide (lo < hi) = true := by simpa using hm
              clear hm
              have rdR := Lib.hid (rdRule_tail e1 e2 e3 e6)
              (go_wp2_with fail); (go_at_call 23; refine (need_yes g _ ln _ B6.out).mono ?_; rintro e w7 ⟨rfl, rfl⟩; skip)
              clear t0 t1 t2 t3 tf
              have HT0 : Hid (rdTests 4 l4 = (rdTests 4 l4).map (fun x => [] ++ x)) := Lib.hid (by simp)
              go_wp2_with fail
              go_loopg [] 4 (fun gk wr => ∃ (n : Nat) (TA : Option Addr) (c : Nat) (ts : List Tst) (l' : List UInt8), gk + n = 4 ∧ l'.length ≤ 1000000 ∧ rb < wr.heap.size ∧ Hid (rdTests 4 l4 = (rdTests gk l').map (fun x => ts ++ x)) ∧ Hid (wr.ownsRow (rb + 1) 67 4 (.slice TA n c) n (tsts ts)) ∧ Hid (Blk wr g 53 [.string (str l'), .int .i64 ln]) ∧ Hid (Blk wr rb 40 [.int .i64 v, .int .i64 lo, .int .i64 hi, .slice TA n c]) ∧ Hid (Blk wr w.heap.size 40 [.int .i64 0, .int .i64 0, .int .i64 0, .slice none 0 0]) ∧ Hid (w.grownBy wr (some g)))
              case atStart => exact ⟨0, none, 0, [], l4, rfl, by omega, by have := T6.out.lt; omega, HT0, Lib.hid ⟨rfl, .inl ⟨rfl, rfl⟩⟩, B6, T6, A6, G6⟩
              case round =>
                obtain ⟨n, TA, c, ts, l', hgk, hl', hrb, HR, HO, HB, HY, HA, HG⟩ := hrel
                have HOB := own_ge4 HO.out
                have HOB := Lib.hid HOB
                have y0 := HY.out.cell (i := 0) rfl
                have y1 := HY.out.cell (i := 1) rfl
                have y2 := HY.out.cell (i := 2) rfl
                have y3 := HY.out.cell (i := 3) rfl
                have yf := HY.out.free
                have htl : ts.length = n := by have := HO.out.1; rw [tsts_len] at this; omega
                have HTL := Lib.hid htl
                clear htl
                by_cases hd : l' = []
                · have hdd : decide (l' = []) = true := by simpa using hd
                  have hts : rdTests 4 l4 = some ts := by rw [HR.out, hd]; cases gk <;> simp [rdTests]
                  have HTS := Lib.hid hts
                  have HDN := Lib.hid (done_c g l' ln wr HB.out)
                  rw [hdd] at HDN
                  clear hd hdd hts
                  (go_wp2_with fail); (go_at_call 26; refine (HDN.out).mono ?_; rintro e w7 ⟨rfl, rfl⟩; skip)
                  have a0 := HA.out.cell (i := 0) rfl
                  have a1 := HA.out.cell (i := 1) rfl
                  have a2 := HA.out.cell (i := 2) rfl
                  have a3 := HA.out.cell (i := 3) rfl
                  have af := HA.out.free
                  go_wp2
                  refine bodyPost_ret (v := .agg #[.int .i64 v, .int .i64 lo, .int .i64 hi, .slice TA n c]) (by simp [results, Tryd.results24, go_sem, a0, a1, a2, a3]) rfl ?_
                  go_light
                  refine .inl ⟨⟨v, lo, hi, ts⟩, TA, c, rdR.out.trans (by unfold ruleF; simp only [HTS.out]), by rw [HTL.out], ?_, ?_⟩
                  · rw [HTL.out]
                    exact own_base (ownsRow_setCell_below (ownsRow_setCell_below (ownsRow_setCell_below (ownsRow_setCell_below HO.out (a := ⟨w.heap.size, 0, none⟩) (by simp; omega) _) (a := ⟨w.heap.size, 1, none⟩) (by simp; omega) _) (a := ⟨w.heap.size, 2, none⟩) (by simp; omega) _) (a := ⟨w.heap.size, 3, none⟩) (by simp; omega) _) (by omega)
                  · exact gr_set (gr_set (gr_set (gr_set HG.out (p := ⟨w.heap.size, 0, none⟩) (.inr (Nat.le_refl _)) _) (p := ⟨w.heap.size, 1, none⟩) (.inr (Nat.le_refl _)) _) (p := ⟨w.heap.size, 2, none⟩) (.inr (Nat.le_refl _)) _) (p := ⟨w.heap.size, 3, none⟩) (.inr (Nat.le_refl _)) _
                · have hdd : decide (l' = []) = false := by simpa using hd
                  have HDN := Lib.hid (done_c g l' ln wr HB.out)
                  rw [hdd] at HDN
                  have HD := Lib.hid hd
                  clear hdd hd
                  (go_wp2_with fail); (go_at_call 26; refine (HDN.out).mono ?_; rintro e w7 ⟨rfl, rfl⟩; skip)
                  by_cases hk : gk = 0
                  · subst hk
                    obtain rfl : n = 4 := by omega
                    (go_wp2_with fail); (go_at_call 23; refine (need_no g _ ln _ HB.out).mono ?_; rintro e w8 ⟨rfl, rfl⟩; skip)
                    exact ⟨rfl, .inr ⟨rdR.out.trans (by unfold ruleF; rw [HR.out, rdTests, if_neg HD.out]; rfl), rfl, HG.out⟩⟩
                  · obtain ⟨G, rfl⟩ : ∃ j, gk = j + 1 := ⟨gk - 1, by omega⟩
                    have hn4 : decide ((n : Int) < 4) = true := by simp; omega
                    (go_wp2_with fail); (go_at_call 23; refine (need_yes g _ ln _ HB.out).mono ?_; rintro e w8 ⟨rfl, rfl⟩; skip)
                    have hst := rdTests_step (k := G) HD.out
                    cases e9 : rdTest l' with
                    | none =>
                      rw [e9] at hst
                      have HST := Lib.hid hst
                      clear hst
                      go_wp2_with fail
                      refine wp_region_invG [some 54, some 55, some 56, some 57, some 58, some 59, some 60, none]
                        (fun _ W0 => Blk W0 g 53 [.string (str l'), .int .i64 ln] ∧ w.grownBy W0 (some g) ∧ W0.cell? ⟨rb, 3, none⟩ = some (.slice TA n c))
                        (fun j x _ => match j with | 0 => x = .pointer (some ⟨rb, 3, none⟩) | 2 => x = .pointer (some ⟨g, 0, none⟩) | 3 => False | 4 => False | 5 => False | _ => True) (by kernel_rfl) (by kernel_rfl) ⟨HB.out.drew, gr_drew HG.out, y3⟩ ?_ ?_
                      · simp only [setAll, putS, List.zipIdx_cons, List.zipIdx_nil, List.foldl_cons, List.foldl_nil, Nat.reduceAdd, List.setIfInBounds_toArray, List.set_cons_zero, List.set_cons_succ]
                        refine ⟨fun u w0 c0 hc0 hW hd K hK => if_yes rfl ?_, ?_⟩
                        · go_simp
                          refine ka (hK _ w0 hW (fun _ _ h => h) rfl) ?_
                          simp [updU, *]
                        refine ⟨fun u w0 c0 hc0 hW hd K hK => if_yes rfl ?_, ?_⟩
                        · have e0 : u 0 = .pointer (some ⟨rb, 3, none⟩) := hd 0 (of_decide_eq_true (by kernel_rfl))
                          have hc3 := hW.2.2
                          go_simp
                          refine ka (hK (.slice TA n c) w0 hW (fun _ _ h => h) trivial) ?_
                          simp [updU, *]
                        refine ⟨fun u w0 c0 hc0 hW hd K hK => if_yes rfl ?_, ?_⟩
                        · go_simp
                          refine ka (hK _ w0 hW (fun _ _ h => h) rfl) ?_
                          simp [updU, *]
                        refine ⟨fun u w0 c0 hc0 hW hd K hK => if_yes rfl ?_, ?_⟩
                        · have e2 : u 2 = .pointer (some ⟨g, 0, none⟩) := hd 2 (of_decide_eq_true (by kernel_rfl))
                          go_simp
                          go_at_call 49
                          refine (testC_no g l' ln hl' _ hW.1 e9).mono ?_
                          rintro e w9 ⟨rfl, hg⟩
                          exact ⟨rfl, .inr ⟨rdR.out.trans (by unfold ruleF; rw [HR.out, HST.out]; rfl), rfl, gr_via hW.2.1 hg⟩⟩
                        refine ⟨fun u w0 c0 hc0 hW hd K hK => (hd 3 (of_decide_eq_true (by kernel_rfl)) : False).elim, ?_⟩
                        refine ⟨fun u w0 c0 hc0 hW hd K hK => (hd 4 (of_decide_eq_true (by kernel_rfl)) : False).elim, ?_⟩
                        refine ⟨fun u w0 c0 hc0 hW hd K hK => if_yes rfl ?_, ?_⟩
                        · go_simp
                          refine ka (hK (.pointer (some ⟨rb, 3, none⟩)) w0 hW (fun _ _ h => h) trivial) ?_
                          simp [updU, *]
                        refine ⟨fun u w0 c0 hc0 hW hd K hK => (hd 5 (of_decide_eq_true (by kernel_rfl)) : False).elim, ?_⟩
                        exact trivial
                      · intro u w0 hW hV
                        exact (hV 3 (by decide) : False).elim
                    | some q =>
                      obtain ⟨⟨tf, tm, top, tx⟩, r⟩ := q
                      rw [e9] at hst
                      have HST := Lib.hid hst
                      have hr9 := test_le e9
                      clear hst
                      have hn10 : n ≤ 4 := by omega
                      go_wp2_with fail
                      go_region_law (first
                        | (refine step_append_rd _ (by rfl) _ _ _ (by rfl) (rb + 1) 67 j0 _ 4 32 Tryd.underlying38 hj0 hy0 hy1 hy2 rfl (by omega) (.slice TA n c) n (tsts ts) (by rfl) (HR9.out.alloc _) (w9.heap.size + 1) (some ⟨w9.heap.size, 0, none⟩) 1 1 _ (by rfl) (rd_tst w9 ⟨tf, tm, top, tx⟩ _) (one_tcell _) (by unfold maxLen; omega) (by omega) (by simp; omega) ?_; intro A10 c10 w10 ho10 hg10 ha10; have A10' := Lib.hid ((A9.out.alloc _).other hg10 (fun e => by have := HOB.out _ e; omega)); have B10 := Lib.hid ((B9.out.alloc _).other hg10 (fun e => by have := HOB.out _ e; omega)); have Y10 := Lib.hid ((Y9.out.alloc _).other hg10 (fun e => by have := HOB.out _ e; omega)); have y30 := Y10.out.cell (i := 3) rfl; have yf0 := Y10.out.free; have hs10 := hg10.size; simp at hs10; have G10 := Lib.hid (gr_grown (gr_alloc G9.out _) hg10 (fun b e => .inr (by have := HOB.out _ e; omega))); have R10 := Lib.hid ho10; clear ho10 hg10 ha10)
                        | (go_simp; go_at_call 49; refine (testC_yes g l' r ⟨tf, tm, top, tx⟩ ln hl' _ HB.out.drew e9).mono ?_; rintro e w9 ⟨rfl, hb, hg⟩; have k9 := gr_via (gr_drew (gr_refl _ g)) hg; have HR9 := Lib.hid (own_gr HO.out k9 (by omega)); have A9 := Lib.hid (HA.out.other k9 (by simp; omega)); have B9 := Lib.hid hb; have Y9 := Lib.hid (HY.out.other k9 (by simp; omega)); have y39 := Y9.out.cell (i := 3) rfl; have yf9 := Y9.out.free; have hs9 := k9.size; have z9 : rb < w9.heap.size := (by omega); have G9 := Lib.hid (gr_via HG.out k9); unfold tstV; clear hg hb k9))
                      all_goals
                        go_wp2
                        go_roundg G
                        case measure => omega
                        case rel =>
                          go_light
                          refine ⟨n + 1, A10, c10, ts ++ [⟨tf, tm, top, tx⟩], r, by omega, by omega, by simp; omega, Lib.hid ?_, Lib.hid ?_, B10.out.far (by simp; omega) _, Y10.out.set_ 3 _, A10'.out.far (by simp; omega) _, gr_set G10.out (.inr (by simp; omega)) _⟩
                          · rw [HR.out, HST.out]
                            cases rdTests G r <;> simp
                          · rw [tsts_add]; exact ownsRow_setCell_below R10.out (a := ⟨rb, 3, none⟩) (by simp) _
            · have e6 : rdHigh lo l3 = none := by unfold rdHigh; simp only [e4, e5]; rw [if_neg hm]
              have hm0 : decide (lo < hi) = false := by simpa using hm
              clear hm
              (go_wp2_with fail); (go_at_call 23; refine (need_no g _ ln _ B6.out).mono ?_; rintro e w7 ⟨rfl, rfl⟩; skip)
              exact ⟨rfl, .inr ⟨by unfold rdRule; simp only [e1, e2, e3, e6], rfl, G6.out⟩⟩
end Go.Proofs.YtflhniobbdanjaaDoor
namespace Go.Proofs.YtflhniobbdanjaaDoor
set_option linter.unusedSimpArgs false
open Go.RowKit
set_option linter.unusedVariables false
set_option linter.unnecessarySimpa false
set_option maxRecDepth 20000
set_option maxHeartbeats 1600000 in
theorem otherC_c (g : Nat) (l : List UInt8) (ln : Int) (w : World) (h : Blk w g 53 [.string (str l), .int .i64 ln]) :
    Calls Tryd.prog 25 #[.pointer (some ⟨g, 0, none⟩)] w (fun e w' => (∃ v, rdElse l = some v ∧ e = .returned (.int .i64 v) ∧ w.grownBy w' (some g)) ∨
      (rdElse l = none ∧ e = .panicked (lineF 45 ln) ∧ w.grownBy w' (some g))) := by
  have H0 := Lib.hid h
  clear h
  go_enter Tryd.func25, Tryd.ntmps25
  cases e1 : skP [101, 108, 115, 101, 32] l with
  | none =>
    (go_wp2_with fail); (go_at_call 47; refine (skipC_no g l [101, 108, 115, 101, 32] ln _ H0.out e1).mono ?_; rintro e w1 ⟨rfl, hb, hg⟩; skip)
    (go_wp2_with fail); (go_at_call 23; refine (need_no g _ ln _ hb).mono ?_; rintro e w2 ⟨rfl, rfl⟩; skip)
    exact ⟨rfl, .inr ⟨by unfold rdElse; simp only [e1], rfl, hg⟩⟩
  | some l1 =>
    (go_wp2_with fail); (go_at_call 47; refine (skipC_yes g l [101, 108, 115, 101, 32] l1 ln _ H0.out e1).mono ?_; rintro e w1 ⟨rfl, hb, hg⟩; skip)
    have B1 := Lib.hid hb
    have G1 := Lib.hid hg
    clear hb hg
    (go_wp2_with fail); (go_at_call 23; refine (need_yes g _ ln _ B1.out).mono ?_; rintro e w2 ⟨rfl, rfl⟩; skip)
    cases e2 : rdVerdict l1 with
    | none =>
      (go_wp2_with fail); (go_at_call 46; refine (verdictC_no g l1 ln _ B1.out e2).mono ?_; rintro e w3 ⟨rfl, hb, hg⟩; skip)
      (go_wp2_with fail); (go_at_call 23; refine (need_no g _ ln _ hb).mono ?_; rintro e w4 ⟨rfl, rfl⟩; skip)
      exact ⟨rfl, .inr ⟨by unfold rdElse; simp only [e1, e2], rfl, gr_via G1.out hg⟩⟩
    | some q =>
      obtain ⟨v, l2⟩ := q
      (go_wp2_with fail); (go_at_call 46; refine (verdictC_yes g l1 l2 v ln _ B1.out e2).mono ?_; rintro e w3 ⟨rfl, hb, hg⟩; skip)
      have B3 := Lib.hid hb
      have G3 := Lib.hid (gr_via G1.out hg)
      clear hb hg
      have HDN := Lib.hid (fun W h => done_c g l2 ln W h)
      by_cases hd : l2 = []
      · have hdd : decide (l2 = []) = true := by simpa using hd
        have HE : Hid (rdElse l = some v) := Lib.hid (by unfold rdElse; simp only [e1, e2]; rw [if_pos hd])
        rw [hdd] at HDN
        clear hd hdd
        (go_wp2_with fail); (go_at_call 26; refine (HDN.out _ B3.out).mono ?_; rintro e w4 ⟨rfl, rfl⟩; skip)
        (go_wp2_with fail); (go_at_call 23; refine (need_yes g _ ln _ B3.out).mono ?_; rintro e w5 ⟨rfl, rfl⟩; skip)
        go_wp2
        go_returns
        exact .inl ⟨v, HE.out, rfl, G3.out⟩
      · have hdd : decide (l2 = []) = false := by simpa using hd
        have HE : Hid (rdElse l = none) := Lib.hid (by unfold rdElse; simp only [e1, e2]; rw [if_neg hd])
        rw [hdd] at HDN
        clear hd hdd
        (go_wp2_with fail); (go_at_call 26; refine (HDN.out _ B3.out).mono ?_; rintro e w4 ⟨rfl, rfl⟩; skip)
        (go_wp2_with fail); (go_at_call 23; refine (need_no g _ ln _ B3.out).mono ?_; rintro e w5 ⟨rfl, rfl⟩; skip)
        exact ⟨rfl, .inr ⟨HE.out, rfl, G3.out⟩⟩
theorem otherC_yes (g : Nat) (l : List UInt8) (v ln : Int) (w : World) (h : Blk w g 53 [.string (str l), .int .i64 ln]) (e : rdElse l = some v) :
    Calls Tryd.prog 25 #[.pointer (some ⟨g, 0, none⟩)] w (fun e w' => e = .returned (.int .i64 v) ∧ w.grownBy w' (some g)) :=
  (otherC_c g l ln w h).mono (fun e' w' h' => by
    rcases h' with ⟨t', h1, h2⟩ | ⟨h1, _⟩
    · rw [e] at h1
      injection h1 with h1
      subst h1
      exact h2
    · rw [e] at h1; cases h1)
theorem otherC_no (g : Nat) (l : List UInt8) (ln : Int) (w : World) (h : Blk w g 53 [.string (str l), .int .i64 ln]) (e : rdElse l = none) :
    Calls Tryd.prog 25 #[.pointer (some ⟨g, 0, none⟩)] w (fun e w' => e = .panicked (lineF 45 ln) ∧ w.grownBy w' (some g)) :=
  (otherC_c g l ln w h).mono (fun e' w' h' => by
    rcases h' with ⟨t', h1, _⟩ | ⟨_, h2⟩
    · rw [e] at h1; cases h1
    · exact h2)
theorem ruleC_no (g : Nat) (l : List UInt8) (ln : Int) (hl : l.length ≤ 1000000) (w : World) (h : Blk w g 53 [.string (str l), .int .i64 ln]) (e : rdRule l = none) :
    Calls Tryd.prog 24 #[.pointer (some ⟨g, 0, none⟩)] w (fun e w' => e = .panicked (lineF 45 ln) ∧ w.grownBy w' (some g)) :=
  (ruleC_c g l ln hl w h).mono (fun e' w' h' => by
    rcases h' with ⟨t', _, _, h1, _⟩ | ⟨_, h2⟩
    · rw [e] at h1; cases h1
    · exact h2)
theorem ruleC_yes (g : Nat) (l : List UInt8) (r : Rl) (ln : Int) (hl : l.length ≤ 1000000) (w : World) (h : Blk w g 53 [.string (str l), .int .i64 ln]) (e : rdRule l = some r) :
    Calls Tryd.prog 24 #[.pointer (some ⟨g, 0, none⟩)] w (fun e w' => ∃ (TA : Option Addr) (c : Nat), e = .returned (.agg #[.int .i64 r.v, .int .i64 r.lo, .int .i64 r.hi, .slice TA r.ts.length c]) ∧ w'.ownsRow w.heap.size 67 4 (.slice TA r.ts.length c) r.ts.length (tsts r.ts) ∧ w.grownBy w' (some g)) :=
  (ruleC_c g l ln hl w h).mono (fun e' w' h' => by
    rcases h' with ⟨r', TA, c, h1, h2⟩ | ⟨h1, _⟩
    · rw [e] at h1
      injection h1 with h1
      subst h1
      exact ⟨TA, c, h2⟩
    · rw [e] at h1; cases h1)
end Go.Proofs.YtflhniobbdanjaaDoor
