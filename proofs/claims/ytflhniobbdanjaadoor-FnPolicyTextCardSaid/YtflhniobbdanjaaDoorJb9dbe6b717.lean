/- Parts of laws in one text. Conditions: each lemma's own. -/
import Derived.Test.YtflhniobbdanjaaDoorJ5b436ab5a9
import Derived.Test.YtflhniobbdanjaaDoorJ54ea7fd8bc
import Derived.Test.YtflhniobbdanjaaDoorJ693f2044f2
import Derived.Test.YtflhniobbdanjaaDoorJ37779f7d65
namespace Go.Proofs.YtflhniobbdanjaaDoor
set_option linter.unusedSimpArgs false
open Go.RowKit
set_option linter.unusedVariables false
set_option linter.unnecessarySimpa false
set_option maxRecDepth 20000
def ksV : Nat → List Int
  | 0 => [1, 2, 3, 4]
  | 1 => [2, 3, 4]
  | 2 => [3, 4]
  | 3 => [4]
  | _ => []
theorem ksV_at (T : Int → List UInt8) (l : List UInt8) {k : Nat} (hk : k < 4) : rdOf T (ksV k) l = match skP (T ((k : Int) + 1)) l with | some r => some ((k : Int) + 1, r) | none => rdOf T (ksV (k + 1)) l := by
  rcases (show k = 0 ∨ k = 1 ∨ k = 2 ∨ k = 3 by omega) with rfl | rfl | rfl | rfl <;> rfl
set_option maxHeartbeats 800000 in
theorem verdictC_c (g : Nat) (l : List UInt8) (ln : Int) (w : World) (h : Blk w g 53 [.string (str l), .int .i64 ln]) :
    Calls Tryd.prog 46 #[.pointer (some ⟨g, 0, none⟩)] w (fun e w' => (∃ v r, rdVerdict l = some (v, r) ∧ e = .returned (.tuple #[.int .i64 v, .bool true]) ∧ Blk w' g 53 [.string (str r), .int .i64 ln] ∧ w.grownBy w' (some g)) ∨
      (rdVerdict l = none ∧ e = .returned (.tuple #[.int .i64 0, .bool false]) ∧ Blk w' g 53 [.string (str l), .int .i64 ln] ∧ w.grownBy w' (some g))) := by
  have H0 := Lib.hid h
  clear h
  have HV : Hid (rdVerdict l = rdOf wordT (ksV 0) l) := Lib.hid rfl
  go_enter Tryd.func46, Tryd.ntmps46
  go_wp2_with fail
  go_loopg [4] 4 (fun gk v wr => ∃ (k : Nat), gk + k = 4 ∧ v = .int .i64 ((k : Int) + 1) ∧ Hid (rdVerdict l = rdOf wordT (ksV k) l) ∧ Hid (Blk wr g 53 [.string (str l), .int .i64 ln]) ∧ Hid (w.grownBy wr (some g)))
  case atStart => exact ⟨0, rfl, rfl, HV, H0, Lib.hid (grg_refl _ _)⟩
  case round =>
    obtain ⟨k, hgk, rfl, HV, HB, HG⟩ := hrel
    by_cases hk : gk = 0
    · subst hk
      obtain rfl : k = 4 := by omega
      go_wp2
      go_returns
      exact .inr ⟨HV.out, rfl, HB.out, HG.out⟩
    · obtain ⟨G, rfl⟩ : ∃ j, gk = j + 1 := ⟨gk - 1, by omega⟩
      have e1 := ksV_at wordT l (show k < 4 by omega)
      have hk3 : (k : Int) + 1 ≤ 4 := by omega
      cases e2 : skP (wordT ((k : Int) + 1)) l with
      | some r =>
        rw [e2] at e1
        have E1 := Lib.hid e1
        clear e1
        (go_wp2_with fail); (go_at_call 58; refine (verdictName_c ((k : Int) + 1) _).mono ?_; rintro e w1 ⟨rfl, rfl⟩; skip)
        (go_wp2_with fail); (go_at_call 47; refine (skipC_yes g l _ r ln _ HB.out e2).mono ?_; rintro e w2 ⟨rfl, hb, hg⟩; skip)
        go_wp2
        go_returns
        exact .inl ⟨_, r, HV.out.trans E1.out, rfl, hb, HG.out.trans hg⟩
      | none =>
        rw [e2] at e1
        have E1 := Lib.hid e1
        clear e1
        (go_wp2_with fail); (go_at_call 58; refine (verdictName_c ((k : Int) + 1) _).mono ?_; rintro e w1 ⟨rfl, rfl⟩; skip)
        (go_wp2_with fail); (go_at_call 47; refine (skipC_no g l _ ln _ HB.out e2).mono ?_; rintro e w2 ⟨rfl, hb, hg⟩; skip)
        have HB2 := Lib.hid hb
        have HG2 := Lib.hid (HG.out.trans hg)
        clear hb hg
        go_wp2
        go_roundg G
        case measure => omega
        case rel =>
          go_light
          exact ⟨k + 1, by omega, by go_num, Lib.hid (HV.out.trans E1.out), HB2, HG2⟩
end Go.Proofs.YtflhniobbdanjaaDoor
namespace Go.Proofs.YtflhniobbdanjaaDoor
set_option linter.unusedSimpArgs false
open Go.RowKit
set_option linter.unusedVariables false
set_option linter.unnecessarySimpa false
set_option maxRecDepth 20000
def ksS : Nat → List Int
  | 0 => [1, 2, 3]
  | 1 => [2, 3]
  | 2 => [3]
  | _ => []
theorem ksS_at (T : Int → List UInt8) (l : List UInt8) {k : Nat} (hk : k < 3) : rdOf T (ksS k) l = match skP (T ((k : Int) + 1)) l with | some r => some ((k : Int) + 1, r) | none => rdOf T (ksS (k + 1)) l := by
  rcases (show k = 0 ∨ k = 1 ∨ k = 2 by omega) with rfl | rfl | rfl <;> rfl
/-- What a test is, where its sign is what is left to be read. -/
def tailF (f m : Int) (l3 : List UInt8) (S : Option (Int × List UInt8)) : Option (Tst × List UInt8) := match S with
  | none => none
  | some (op, l4) => match rdWord l4 with
    | none => none
    | some (x, l5) => if tstB ⟨f, m, op, x⟩ = true then some (⟨f, m, op, x⟩, l5) else none
theorem rdTest_tail {l l1 l2 l3 : List UInt8} {f m : Int} (e1 : skP [32, 97] l = some l1) (e2 : rdWord l1 = some (f, l2)) (e3 : rdMask l2 = some (m, l3)) : rdTest l = tailF f m l3 (rdSign l3) := by
  unfold rdTest tailF
  simp only [e1, e2, e3]
  cases rdSign l3 with
  | none => rfl
  | some q =>
    obtain ⟨op, l4⟩ := q
    simp only
    cases rdWord l4 with
    | none => rfl
    | some q => rfl
set_option maxHeartbeats 4000000 in
set_option maxRecDepth 100000 in
theorem testC_c (g : Nat) (l : List UInt8) (ln : Int) (hl : l.length ≤ 1000000) (w : World) (h : Blk w g 53 [.string (str l), .int .i64 ln]) :
    Calls Tryd.prog 49 #[.pointer (some ⟨g, 0, none⟩)] w (fun e w' => (∃ t r, rdTest l = some (t, r) ∧ e = .returned (tstV t) ∧ Blk w' g 53 [.string (str r), .int .i64 ln] ∧ w.grownBy w' (some g)) ∨
      (rdTest l = none ∧ e = .panicked (lineF 45 ln) ∧ w.grownBy w' (some g))) := by
  have hgl := h.lt
  have H0 := Lib.hid h
  have HA0 := Lib.hid (Blk.new w 67 [.int .i64 0, .int .i64 0, .int .i64 0, .int .i64 0])
  clear h
  go_enter Tryd.func49, Tryd.ntmps49
  cases e1 : skP [32, 97] l with
  | none =>
    (go_wp2_with fail); (go_at_call 47; refine (skipC_no g l [32, 97] ln _ (H0.out.alloc _) e1).mono ?_; rintro e w1 ⟨rfl, hb, hg⟩; skip)
    (go_wp2_with fail); (go_at_call 23; refine (need_no g _ ln _ hb).mono ?_; rintro e w2 ⟨rfl, rfl⟩; skip)
    exact ⟨rfl, .inr ⟨by unfold rdTest; simp only [e1], rfl, gr_via (gr_alloc (gr_refl _ _) _) hg⟩⟩
  | some l1 =>
    have hl1 := skP_le e1
    (go_wp2_with fail); (go_at_call 47; refine (skipC_yes g l [32, 97] l1 ln _ (H0.out.alloc _) e1).mono ?_; rintro e w1 ⟨rfl, hb, hg⟩; skip)
    have B1 := Lib.hid hb
    have A1 := Lib.hid (HA0.out.other hg (by simp; omega))
    have G1 := Lib.hid (gr_via (gr_alloc (gr_refl w g) _) hg)
    have hs1 := hg.size
    simp at hs1
    clear hb hg
    (go_wp2_with fail); (go_at_call 23; refine (need_yes g _ ln _ B1.out).mono ?_; rintro e w2 ⟨rfl, rfl⟩; skip)
    cases e2 : rdWord l1 with
    | none =>
      (go_wp2_with fail); (go_at_call 48; refine (wordC_no g l1 ln (by omega) _ B1.out e2).mono ?_; rintro e w3 ⟨rfl, hg⟩; skip)
      exact ⟨rfl, .inr ⟨by unfold rdTest; simp only [e1, e2], rfl, gr_via G1.out hg⟩⟩
    | some q =>
      obtain ⟨f, l2⟩ := q
      have hl2 := word_le e2
      (go_wp2_with fail); (go_at_call 48; refine (wordC_yes g l1 l2 f ln (by omega) _ B1.out e2).mono ?_; rintro e w3 ⟨rfl, hb, hg⟩; skip)
      have B3 := Lib.hid hb
      have A3 := Lib.hid (A1.out.other hg (by simp; omega))
      have G3 := Lib.hid (gr_via G1.out hg)
      have hs3 := hg.size
      clear hb hg A1 G1
      have T3 := Lib.hid (Blk.new w3 67 [.int .i64 f, .int .i64 4294967295, .int .i64 0, .int .i64 0])
      have B3' := Lib.hid (B3.out.alloc (.cells #[.int .i64 f, .int .i64 4294967295, .int .i64 0, .int .i64 0] 67))
      have A3' := Lib.hid (A3.out.alloc (.cells #[.int .i64 f, .int .i64 4294967295, .int .i64 0, .int .i64 0] 67))
      have G3' := Lib.hid (gr_alloc G3.out (.cells #[.int .i64 f, .int .i64 4294967295, .int .i64 0, .int .i64 0] 67))
      clear B3 A3 G3
      cases e3 : skP [38] l2 with
      | none =>
        have e4 : rdMask l2 = some (4294967295, l2) := by unfold rdMask; simp only [e3]
        have rdT := Lib.hid (rdTest_tail e1 e2 e4)
        (go_wp2_with fail); (go_at_call 47; refine (skipC_no g l2 [38] ln _ B3'.out e3).mono ?_; rintro e w4 ⟨rfl, hb, hg⟩; skip)
        have B4 := Lib.hid hb
        have A4 := Lib.hid (A3'.out.other hg (by simp; omega))
        have T4 := Lib.hid (T3.out.other hg (by simp; omega))
        have G4 := Lib.hid (gr_via G3'.out hg)
        have hs4 := hg.size
        simp at hs4
        clear hb hg B3' A3' G3' T3
        obtain ⟨tb, htb⟩ : ∃ tb, tb = w3.heap.size := ⟨_, rfl⟩
        rw [← htb] at T4 hs4
        simp only [← htb]
        have htg : tb ≠ g := by omega
        have htw : w.heap.size < tb := by omega
        clear htb
        have HS : Hid (rdSign l2 = rdOf signT (ksS 0) l2) := Lib.hid rfl
        go_wp2_with fail
        go_loopg [4] 3 (fun gk v wr => ∃ (k : Nat), gk + k = 3 ∧ v = .int .i64 ((k : Int) + 1) ∧ Hid (rdSign l2 = rdOf signT (ksS k) l2) ∧ Hid (Blk wr g 53 [.string (str l2), .int .i64 ln]) ∧ Hid (Blk wr tb 67 [.int .i64 f, .int .i64 4294967295, .int .i64 0, .int .i64 0]) ∧ Hid (Blk wr w.heap.size 67 [.int .i64 0, .int .i64 0, .int .i64 0, .int .i64 0]) ∧ Hid (w.grownBy wr (some g)))
        case atStart => exact ⟨0, rfl, rfl, HS, B4, T4, A4, G4⟩
        case round =>
          obtain ⟨k, hgk, rfl, HS, HB, HT, HA, HG⟩ := hrel
          have t0 := HT.out.cell (i := 0) rfl
          have t1 := HT.out.cell (i := 1) rfl
          have t2 := HT.out.cell (i := 2) rfl
          have t3 := HT.out.cell (i := 3) rfl
          have tf := HT.out.free
          by_cases hk : gk = 0
          · subst hk
            obtain rfl : k = 3 := by omega
            (go_wp2_with fail); (go_at_call 23; refine (need_no g _ ln _ HB.out).mono ?_; rintro e w7 ⟨rfl, rfl⟩; skip)
            exact ⟨rfl, .inr ⟨rdT.out.trans (by rw [HS.out]; rfl), rfl, HG.out⟩⟩
          · obtain ⟨G, rfl⟩ : ∃ j, gk = j + 1 := ⟨gk - 1, by omega⟩
            have e6 := ksS_at signT l2 (show k < 3 by omega)
            have hk3 : (k : Int) + 1 ≤ 3 := by omega
            cases e7 : skP (signT ((k : Int) + 1)) l2 with
            | none =>
              rw [e7] at e6
              have E6 := Lib.hid e6
              clear e6
              go_wp2_with fail
              go_region_with (first
                | (go_at_call 67; refine (sign_c ((k : Int) + 1) _).mono ?_; rintro e wS ⟨rfl, rfl⟩)
                | (go_at_call 47; refine (skipC_no g _ _ ln _ HB.out.drew e7).mono ?_; rintro e w7 ⟨rfl, hb, hg⟩))
              all_goals
                have HB2 := Lib.hid hb
                have HT2 := Lib.hid (HT.out.other (gr_drew (gr_refl _ _) |>.trans hg) (by simp; omega))
                have HA2 := Lib.hid (HA.out.other (gr_drew (gr_refl _ _) |>.trans hg) (by simp; omega))
                have HG2 := Lib.hid (gr_via HG.out ((gr_drew (gr_refl _ _)).trans hg))
                clear hb hg
                go_wp2
                go_roundg G
                case measure => omega
                case rel =>
                  go_light
                  exact ⟨k + 1, by omega, by go_num, Lib.hid (HS.out.trans E6.out), HB2, HT2, HA2, HG2⟩
            | some l4 =>
              rw [e7] at e6
              have RS := Lib.hid (HS.out.trans e6)
              clear e6
              have hl4 := skP_le e7
              go_wp2_with fail
              go_region_with (first
                | (go_at_call 67; refine (sign_c ((k : Int) + 1) _).mono ?_; rintro e wS ⟨rfl, rfl⟩)
                | (go_at_call 47; refine (skipC_yes g _ _ l4 ln _ HB.out.drew e7).mono ?_; rintro e w7 ⟨rfl, hb, hg⟩))
              all_goals
                have B7 := Lib.hid hb
                have T7 := Lib.hid (HT.out.other ((gr_drew (gr_refl _ _)).trans hg) (by simp; omega))
                have A7 := Lib.hid (HA.out.other ((gr_drew (gr_refl _ _)).trans hg) (by simp; omega))
                have G7 := Lib.hid (gr_via HG.out ((gr_drew (gr_refl _ _)).trans hg))
                have hs7 := hg.size
                (try simp at hs7)
                clear hb hg t0 t1 t2 t3 tf
                have t0 := T7.out.cell (i := 0) rfl
                have t1 := T7.out.cell (i := 1) rfl
                have t2 := T7.out.cell (i := 2) rfl
                have t3 := T7.out.cell (i := 3) rfl
                have tf := T7.out.free
                have hk0 : (((k : Int) + 1) != 0) = true := by simp; omega
                have B8 := Lib.hid (B7.out.far (p := ⟨tb, 2, none⟩) (by simp; omega) (.int .i64 ((k : Int) + 1)))
                have T8 := Lib.hid (T7.out.set_ 2 (.int .i64 ((k : Int) + 1)))
                have A8 := Lib.hid (A7.out.far (p := ⟨tb, 2, none⟩) (by simp; omega) (.int .i64 ((k : Int) + 1)))
                have G8 := Lib.hid (gr_set G7.out (p := ⟨tb, 2, none⟩) (.inr (by simp; omega)) (.int .i64 ((k : Int) + 1)))
                clear B7 T7 A7 G7 HB HT HA HG
                (go_wp2_with fail); (go_at_call 23; refine (need_yes g _ ln _ B8.out).mono ?_; rintro e w8 ⟨rfl, rfl⟩; skip)
                clear t0 t1 t2 t3 tf
                cases e8 : rdWord l4 with
                | none =>
                  (go_wp2_with fail); (go_at_call 48; refine (wordC_no g l4 ln (by omega) _ B8.out e8).mono ?_; rintro e w9 ⟨rfl, hg⟩; skip)
                  exact ⟨rfl, .inr ⟨rdT.out.trans (by rw [RS.out]; unfold tailF; simp only [e8]), rfl, gr_via G8.out hg⟩⟩
                | some q =>
                  obtain ⟨x, l5⟩ := q
                  (go_wp2_with fail); (go_at_call 48; refine (wordC_yes g l4 l5 x ln (by omega) _ B8.out e8).mono ?_; rintro e w9 ⟨rfl, hb, hg⟩; skip)
                  have B9 := Lib.hid (Blk.far hb (p := ⟨tb, 3, none⟩) (by simp; omega) (.int .i64 x))
                  have T9 := Lib.hid ((T8.out.other hg (by simp; omega)).set_ 3 (.int .i64 x))
                  have A9 := Lib.hid ((A8.out.other hg (by simp; omega)).far (p := ⟨tb, 3, none⟩) (by simp; omega) (.int .i64 x))
                  have G9 := Lib.hid (gr_set (gr_via G8.out hg) (p := ⟨tb, 3, none⟩) (.inr (by simp; omega)) (.int .i64 x))
                  have T9' := T8.out.other hg (by simp; omega)
                  have t0 := T9'.cell (i := 0) rfl
                  have t1 := T9'.cell (i := 1) rfl
                  have t2 := T9'.cell (i := 2) rfl
                  have t3 := T9'.cell (i := 3) rfl
                  have tf := T9'.free
                  have hs9 := hg.size
                  (try simp at hs9)
                  clear hb hg T9' B8 T8 A8 G8
                  cases hb : tstB ⟨f, 4294967295, (k : Int) + 1, x⟩ with
                  | false =>
                    have HT : Hid (∀ W, Calls Tryd.prog 68 #[testV f 4294967295 ((k : Int) + 1) x] W (RetB (.bool false) W)) := Lib.hid (fun W => by have := testOk_c f 4294967295 ((k : Int) + 1) x W; rwa [show testB f 4294967295 ((k : Int) + 1) x = false from hb] at this)
                    (go_wp2_with fail); (go_at_call 68; refine (HT.out _).mono ?_; rintro e w11 ⟨rfl, b11⟩; skip)
                    (go_wp2_with fail); (go_at_call 23; refine (need_no g _ ln _ (B9.out.up b11)).mono ?_; rintro e w12 ⟨rfl, rfl⟩; skip)
                    exact ⟨rfl, .inr ⟨rdT.out.trans (by rw [RS.out]; unfold tailF; simp only [e8]; rw [hb]; rfl), rfl, gr_via G9.out ⟨b11.os, b11.tape, b11.output, b11.size, fun i hi _ => b11.block i hi⟩⟩⟩
                  | true =>
                    have HT : Hid (∀ W, Calls Tryd.prog 68 #[testV f 4294967295 ((k : Int) + 1) x] W (RetB (.bool true) W)) := Lib.hid (fun W => by have := testOk_c f 4294967295 ((k : Int) + 1) x W; rwa [show testB f 4294967295 ((k : Int) + 1) x = true from hb] at this)
                    (go_wp2_with fail); (go_at_call 68; refine (HT.out _).mono ?_; rintro e w11 ⟨rfl, b11⟩; have B11 := Lib.hid (B9.out.up b11); have T11 := Lib.hid (T9.out.up b11); have A11 := Lib.hid (A9.out.up b11); have G11 := Lib.hid (gr_via G9.out ⟨b11.os, b11.tape, b11.output, b11.size, fun i hi _ => b11.block i hi⟩); clear b11 t0 t1 t2 t3 tf)
                    (go_wp2_with fail); (go_at_call 23; refine (need_yes g _ ln _ B11.out).mono ?_; rintro e w12 ⟨rfl, rfl⟩; skip)
                    have t0 := T11.out.cell (i := 0) rfl
                    have t1 := T11.out.cell (i := 1) rfl
                    have t2 := T11.out.cell (i := 2) rfl
                    have t3 := T11.out.cell (i := 3) rfl
                    have a0 := A11.out.cell (i := 0) rfl
                    have a1 := A11.out.cell (i := 1) rfl
                    have a2 := A11.out.cell (i := 2) rfl
                    have a3 := A11.out.cell (i := 3) rfl
                    have af := A11.out.free
                    go_wp2
                    refine bodyPost_ret (v := tstV ⟨f, 4294967295, (k : Int) + 1, x⟩) (by simp [results, Tryd.results49, go_sem, a0, a1, a2, a3, tstV]) rfl ?_
                    go_light
                    refine .inl ⟨⟨f, 4294967295, (k : Int) + 1, x⟩, l5, rdT.out.trans (by rw [RS.out]; unfold tailF; simp only [e8]; rw [hb]; rfl), rfl, ?_, ?_⟩
                    · exact (((B11.out.far (p := ⟨w.heap.size, 0, none⟩) (by simp; omega) _).far (p := ⟨w.heap.size, 1, none⟩) (by simp; omega) _).far (p := ⟨w.heap.size, 2, none⟩) (by simp; omega) _).far (p := ⟨w.heap.size, 3, none⟩) (by simp; omega) _
                    · exact gr_set (gr_set (gr_set (gr_set G11.out (p := ⟨w.heap.size, 0, none⟩) (.inr (Nat.le_refl _)) _) (p := ⟨w.heap.size, 1, none⟩) (.inr (Nat.le_refl _)) _) (p := ⟨w.heap.size, 2, none⟩) (.inr (Nat.le_refl _)) _) (p := ⟨w.heap.size, 3, none⟩) (.inr (Nat.le_refl _)) _
      | some l2b =>
        have hl2b := skP_le e3
        (go_wp2_with fail); (go_at_call 47; refine (skipC_yes g l2 [38] l2b ln _ B3'.out e3).mono ?_; rintro e w4 ⟨rfl, hb, hg⟩; skip)
        have B4 := Lib.hid hb
        have A4 := Lib.hid (A3'.out.other hg (by simp; omega))
        have T4 := Lib.hid (T3.out.other hg (by simp; omega))
        have G4 := Lib.hid (gr_via G3'.out hg)
        have hs4 := hg.size
        simp at hs4
        clear hb hg B3' A3' G3' T3
        obtain ⟨tb, htb⟩ : ∃ tb, tb = w3.heap.size := ⟨_, rfl⟩
        rw [← htb] at T4 hs4
        simp only [← htb]
        have htg : tb ≠ g := by omega
        have htw : w.heap.size < tb := by omega
        clear htb
        cases e4 : rdWord l2b with
        | none =>
          have e5 : rdMask l2 = none := by unfold rdMask; simp only [e3, e4]
          (go_wp2_with fail); (go_at_call 48; refine (wordC_no g l2b ln (by omega) _ B4.out e4).mono ?_; rintro e w5 ⟨rfl, hg⟩; skip)
          exact ⟨rfl, .inr ⟨by unfold rdTest; simp only [e1, e2, e5], rfl, gr_via G4.out hg⟩⟩
        | some q =>
          obtain ⟨m, l3⟩ := q
          have hl3 := word_le e4
          (go_wp2_with fail); (go_at_call 48; refine (wordC_yes g l2b l3 m ln (by omega) _ B4.out e4).mono ?_; rintro e w5 ⟨rfl, hb, hg⟩; skip)
          have B5 := Lib.hid (Blk.far hb (p := ⟨tb, 1, none⟩) (by simp; omega) (.int .i64 m))
          have T5 := Lib.hid ((T4.out.other hg (by simp; omega)).set_ 1 (.int .i64 m))
          have A5 := Lib.hid ((A4.out.other hg (by simp; omega)).far (p := ⟨tb, 1, none⟩) (by simp; omega) (.int .i64 m))
          have G5 := Lib.hid (gr_set (gr_via G4.out hg) (p := ⟨tb, 1, none⟩) (.inr (by simp; omega)) (.int .i64 m))
          have T5' := T4.out.other hg (by simp; omega)
          have t0 := T5'.cell (i := 0) rfl
          have t1 := T5'.cell (i := 1) rfl
          have t2 := T5'.cell (i := 2) rfl
          have t3 := T5'.cell (i := 3) rfl
          have tf := T5'.free
          have hs5 := hg.size
          (try simp at hs5)
          clear hb hg T5' B4 T4 A4 G4
          by_cases hm : m = 4294967295
          · have e5 : rdMask l2 = none := by unfold rdMask; simp only [e3, e4]; rw [if_neg (by omega)]
            have hm0 : (m != 4294967295) = false := by simpa using hm
            clear hm
            (go_wp2_with fail); (go_at_call 23; refine (need_no g _ ln _ B5.out).mono ?_; rintro e w6 ⟨rfl, rfl⟩; skip)
            exact ⟨rfl, .inr ⟨by unfold rdTest; simp only [e1, e2, e5], rfl, G5.out⟩⟩
          · have e5 : rdMask l2 = some (m, l3) := by unfold rdMask; simp only [e3, e4]; rw [if_pos hm]
            have hm0 : (m != 4294967295) = true := by simpa using hm
            clear hm
            have rdT := Lib.hid (rdTest_tail e1 e2 e5)
            (go_wp2_with fail); (go_at_call 23; refine (need_yes g _ ln _ B5.out).mono ?_; rintro e w6 ⟨rfl, rfl⟩; skip)
            clear t0 t1 t2 t3 tf
            have HS : Hid (rdSign l3 = rdOf signT (ksS 0) l3) := Lib.hid rfl
            go_wp2_with fail
            go_loopg [4] 3 (fun gk v wr => ∃ (k : Nat), gk + k = 3 ∧ v = .int .i64 ((k : Int) + 1) ∧ Hid (rdSign l3 = rdOf signT (ksS k) l3) ∧ Hid (Blk wr g 53 [.string (str l3), .int .i64 ln]) ∧ Hid (Blk wr tb 67 [.int .i64 f, .int .i64 m, .int .i64 0, .int .i64 0]) ∧ Hid (Blk wr w.heap.size 67 [.int .i64 0, .int .i64 0, .int .i64 0, .int .i64 0]) ∧ Hid (w.grownBy wr (some g)))
            case atStart => exact ⟨0, rfl, rfl, HS, B5, T5, A5, G5⟩
            case round =>
              obtain ⟨k, hgk, rfl, HS, HB, HT, HA, HG⟩ := hrel
              have t0 := HT.out.cell (i := 0) rfl
              have t1 := HT.out.cell (i := 1) rfl
              have t2 := HT.out.cell (i := 2) rfl
              have t3 := HT.out.cell (i := 3) rfl
              have tf := HT.out.free
              by_cases hk : gk = 0
              · subst hk
                obtain rfl : k = 3 := by omega
                (go_wp2_with fail); (go_at_call 23; refine (need_no g _ ln _ HB.out).mono ?_; rintro e w7 ⟨rfl, rfl⟩; skip)
                exact ⟨rfl, .inr ⟨rdT.out.trans (by rw [HS.out]; rfl), rfl, HG.out⟩⟩
              · obtain ⟨G, rfl⟩ : ∃ j, gk = j + 1 := ⟨gk - 1, by omega⟩
                have e6 := ksS_at signT l3 (show k < 3 by omega)
                have hk3 : (k : Int) + 1 ≤ 3 := by omega
                cases e7 : skP (signT ((k : Int) + 1)) l3 with
                | none =>
                  rw [e7] at e6
                  have E6 := Lib.hid e6
                  clear e6
                  go_wp2_with fail
                  go_region_with (first
                    | (go_at_call 67; refine (sign_c ((k : Int) + 1) _).mono ?_; rintro e wS ⟨rfl, rfl⟩)
                    | (go_at_call 47; refine (skipC_no g _ _ ln _ HB.out.drew e7).mono ?_; rintro e w7 ⟨rfl, hb, hg⟩))
                  all_goals
                    have HB2 := Lib.hid hb
                    have HT2 := Lib.hid (HT.out.other (gr_drew (gr_refl _ _) |>.trans hg) (by simp; omega))
                    have HA2 := Lib.hid (HA.out.other (gr_drew (gr_refl _ _) |>.trans hg) (by simp; omega))
                    have HG2 := Lib.hid (gr_via HG.out ((gr_drew (gr_refl _ _)).trans hg))
                    clear hb hg
                    go_wp2
                    go_roundg G
                    case measure => omega
                    case rel =>
                      go_light
                      exact ⟨k + 1, by omega, by go_num, Lib.hid (HS.out.trans E6.out), HB2, HT2, HA2, HG2⟩
                | some l4 =>
                  rw [e7] at e6
                  have RS := Lib.hid (HS.out.trans e6)
                  clear e6
                  have hl4 := skP_le e7
                  go_wp2_with fail
                  go_region_with (first
                    | (go_at_call 67; refine (sign_c ((k : Int) + 1) _).mono ?_; rintro e wS ⟨rfl, rfl⟩)
                    | (go_at_call 47; refine (skipC_yes g _ _ l4 ln _ HB.out.drew e7).mono ?_; rintro e w7 ⟨rfl, hb, hg⟩))
                  all_goals
                    have B7 := Lib.hid hb
                    have T7 := Lib.hid (HT.out.other ((gr_drew (gr_refl _ _)).trans hg) (by simp; omega))
                    have A7 := Lib.hid (HA.out.other ((gr_drew (gr_refl _ _)).trans hg) (by simp; omega))
                    have G7 := Lib.hid (gr_via HG.out ((gr_drew (gr_refl _ _)).trans hg))
                    have hs7 := hg.size
                    (try simp at hs7)
                    clear hb hg t0 t1 t2 t3 tf
                    have t0 := T7.out.cell (i := 0) rfl
                    have t1 := T7.out.cell (i := 1) rfl
                    have t2 := T7.out.cell (i := 2) rfl
                    have t3 := T7.out.cell (i := 3) rfl
                    have tf := T7.out.free
                    have hk0 : (((k : Int) + 1) != 0) = true := by simp; omega
                    have B8 := Lib.hid (B7.out.far (p := ⟨tb, 2, none⟩) (by simp; omega) (.int .i64 ((k : Int) + 1)))
                    have T8 := Lib.hid (T7.out.set_ 2 (.int .i64 ((k : Int) + 1)))
                    have A8 := Lib.hid (A7.out.far (p := ⟨tb, 2, none⟩) (by simp; omega) (.int .i64 ((k : Int) + 1)))
                    have G8 := Lib.hid (gr_set G7.out (p := ⟨tb, 2, none⟩) (.inr (by simp; omega)) (.int .i64 ((k : Int) + 1)))
                    clear B7 T7 A7 G7 HB HT HA HG
                    (go_wp2_with fail); (go_at_call 23; refine (need_yes g _ ln _ B8.out).mono ?_; rintro e w8 ⟨rfl, rfl⟩; skip)
                    clear t0 t1 t2 t3 tf
                    cases e8 : rdWord l4 with
                    | none =>
                      (go_wp2_with fail); (go_at_call 48; refine (wordC_no g l4 ln (by omega) _ B8.out e8).mono ?_; rintro e w9 ⟨rfl, hg⟩; skip)
                      exact ⟨rfl, .inr ⟨rdT.out.trans (by rw [RS.out]; unfold tailF; simp only [e8]), rfl, gr_via G8.out hg⟩⟩
                    | some q =>
                      obtain ⟨x, l5⟩ := q
                      (go_wp2_with fail); (go_at_call 48; refine (wordC_yes g l4 l5 x ln (by omega) _ B8.out e8).mono ?_; rintro e w9 ⟨rfl, hb, hg⟩; skip)
                      have B9 := Lib.hid (Blk.far hb (p := ⟨tb, 3, none⟩) (by simp; omega) (.int .i64 x))
                      have T9 := Lib.hid ((T8.out.other hg (by simp; omega)).set_ 3 (.int .i64 x))
                      have A9 := Lib.hid ((A8.out.other hg (by simp; omega)).far (p := ⟨tb, 3, none⟩) (by simp; omega) (.int .i64 x))
                      have G9 := Lib.hid (gr_set (gr_via G8.out hg) (p := ⟨tb, 3, none⟩) (.inr (by simp; omega)) (.int .i64 x))
                      have T9' := T8.out.other hg (by simp; omega)
                      have t0 := T9'.cell (i := 0) rfl
                      have t1 := T9'.cell (i := 1) rfl
                      have t2 := T9'.cell (i := 2) rfl
                      have t3 := T9'.cell (i := 3) rfl
                      have tf := T9'.free
                      have hs9 := hg.size
                      (try simp at hs9)
                      clear hb hg T9' B8 T8 A8 G8
                      cases hb : tstB ⟨f, m, (k : Int) + 1, x⟩ with
                      | false =>
                        have HT : Hid (∀ W, Calls Tryd.prog 68 #[testV f m ((k : Int) + 1) x] W (RetB (.bool false) W)) := Lib.hid (fun W => by have := testOk_c f m ((k : Int) + 1) x W; rwa [show testB f m ((k : Int) + 1) x = false from hb] at this)
                        (go_wp2_with fail); (go_at_call 68; refine (HT.out _).mono ?_; rintro e w11 ⟨rfl, b11⟩; skip)
                        (go_wp2_with fail); (go_at_call 23; refine (need_no g _ ln _ (B9.out.up b11)).mono ?_; rintro e w12 ⟨rfl, rfl⟩; skip)
                        exact ⟨rfl, .inr ⟨rdT.out.trans (by rw [RS.out]; unfold tailF; simp only [e8]; rw [hb]; rfl), rfl, gr_via G9.out ⟨b11.os, b11.tape, b11.output, b11.size, fun i hi _ => b11.block i hi⟩⟩⟩
                      | true =>
                        have HT : Hid (∀ W, Calls Tryd.prog 68 #[testV f m ((k : Int) + 1) x] W (RetB (.bool true) W)) := Lib.hid (fun W => by have := testOk_c f m ((k : Int) + 1) x W; rwa [show testB f m ((k : Int) + 1) x = true from hb] at this)
                        (go_wp2_with fail); (go_at_call 68; refine (HT.out _).mono ?_; rintro e w11 ⟨rfl, b11⟩; have B11 := Lib.hid (B9.out.up b11); have T11 := Lib.hid (T9.out.up b11); have A11 := Lib.hid (A9.out.up b11); have G11 := Lib.hid (gr_via G9.out ⟨b11.os, b11.tape, b11.output, b11.size, fun i hi _ => b11.block i hi⟩); clear b11 t0 t1 t2 t3 tf)
                        (go_wp2_with fail); (go_at_call 23; refine (need_yes g _ ln _ B11.out).mono ?_; rintro e w12 ⟨rfl, rfl⟩; skip)
                        have t0 := T11.out.cell (i := 0) rfl
                        have t1 := T11.out.cell (i := 1) rfl
                        have t2 := T11.out.cell (i := 2) rfl
                        have t3 := T11.out.cell (i := 3) rfl
                        have a0 := A11.out.cell (i := 0) rfl
                        have a1 := A11.out.cell (i := 1) rfl
                        have a2 := A11.out.cell (i := 2) rfl
                        have a3 := A11.out.cell (i := 3) rfl
                        have af := A11.out.free
                        go_wp2
                        refine bodyPost_ret (v := tstV ⟨f, m, (k : Int) + 1, x⟩) (by simp [results, Tryd.results49, go_sem, a0, a1, a2, a3, tstV]) rfl ?_
                        go_light
                        refine .inl ⟨⟨f, m, (k : Int) + 1, x⟩, l5, rdT.out.trans (by rw [RS.out]; unfold tailF; simp only [e8]; rw [hb]; rfl), rfl, ?_, ?_⟩
                        · exact (((B11.out.far (p := ⟨w.heap.size, 0, none⟩) (by simp; omega) _).far (p := ⟨w.heap.size, 1, none⟩) (by simp; omega) _).far (p := ⟨w.heap.size, 2, none⟩) (by simp; omega) _).far (p := ⟨w.heap.size, 3, none⟩) (by simp; omega) _
                        · exact gr_set (gr_set (gr_set (gr_set G11.out (p := ⟨w.heap.size, 0, none⟩) (.inr (Nat.le_refl _)) _) (p := ⟨w.heap.size, 1, none⟩) (.inr (Nat.le_refl _)) _) (p := ⟨w.heap.size, 2, none⟩) (.inr (Nat.le_refl _)) _) (p := ⟨w.heap.size, 3, none⟩) (.inr (Nat.le_refl _)) _
end Go.Proofs.YtflhniobbdanjaaDoor
