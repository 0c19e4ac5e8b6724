/- The reference's reading: a rule. Conditions: each contract's own. -/
import Derived.Test.YtflhniobbdanjaaDoorJ00853bf920
import Derived.Test.YtflhniobbdanjaaDoorJf3b74957f5
import Derived.Test.YtflhniobbdanjaaDoorJ8a22b2749d
import Derived.Deep.RegionHeld3
namespace Go.Proofs.YtflhniobbdanjaaDoor
set_option linter.unusedSimpArgs false
open Go.RowKit
set_option linter.unusedVariables false
set_option linter.unnecessarySimpa false
set_option maxRecDepth 20000
theorem polOk_one (r : Rl) : polOk ⟨[r], 1⟩ = ruleB r := by
  unfold polOk polB
  cases h : ruleB r with
  | false => simp [h]
  | true =>
    have h1 := line_len h
    have h2 : (textT ⟨[r], 1⟩).length ≤ 900 := by
      unfold textT linesT
      have := word_len 1
      simp
      omega
    simp [h, ruleB.verB', h2]
theorem rdR_one {w : World} {g t c : Nat} {r : Rl} {TA : Option Addr} (hb : Blk w g t [.int .i64 r.v, .int .i64 r.lo, .int .i64 r.hi, .slice TA r.ts.length c]) (ht : Rd w w.heap.size 4 TA r.ts.length (tsts r.ts)) (hl : r.ts.length ≤ 9223372036854775807) : RdR w w.heap.size (some ⟨g, 0, none⟩) 1 [r] :=
  ⟨rfl, fun _ => ⟨g, 0, rfl, hb.lt, fun j x hx => by
    have hj := (List.getElem?_eq_some_iff.1 hx).1
    simp at hj
    subst hj
    simp at hx
    subst hx
    exact ⟨TA, c, hb.cell (i := 0) rfl, hb.cell (i := 1) rfl, hb.cell (i := 2) rfl, hb.cell (i := 3) rfl, ht, hl⟩⟩⟩
theorem last_at {α : Type} {l : List α} {m : Nat} (h : l.length = m + 1) {x : α} (hx : l[m]? = some x) (d : α) : l.getLastD d = x := by
  rw [List.getLastD_eq_getLast?, List.getLast?_eq_getElem?, h, Nat.add_sub_cancel, hx]; rfl
theorem head_at {α : Type} {l : List α} {x : α} (hx : l[0]? = some x) (d : α) : l.headD d = x := by
  rw [List.headD_eq_head?_getD, List.head?_eq_getElem?, hx]; rfl
theorem getD_at {α : Type} {l : List α} {k : Nat} {x : α} (hx : l[k]? = some x) (d : α) : l.getD k d = x := by
  rw [List.getD_eq_getElem?_getD, hx]; rfl
set_option maxHeartbeats 4000000 in
set_option maxRecDepth 100000 in
theorem l2Rule_c (l : List UInt8) (hl : l.length ≤ 1000000) (w : World) : Calls Tryd.prog 18 #[.string (str l)] w (fun e w' => ∃ (r : Rl) (TA : Option Addr) (c : Nat) (b : Bool), e = .returned (.tuple #[.agg #[.int .i64 r.v, .int .i64 r.lo, .int .i64 r.hi, .slice TA r.ts.length c], .bool b]) ∧ w'.ownsRow w.heap.size 67 4 (.slice TA r.ts.length c) r.ts.length (tsts r.ts) ∧ Below w.heap.size w w' ∧ rdRule l = if b then some r else none) := by
  obtain ⟨j0, hj0, hy0, hy1, hy2⟩ := info_parts info_test4
  have HC1 := Lib.hid (fun W => cut_c l hl 32 W)
  have hps : ∀ p ∈ cuts 32 l, p.length ≤ 1000000 := fun p hp => by have := cuts_shortT hp; omega
  have hcl : (cuts 32 l).length ≤ 1000001 := by have := cuts_len 32 l; have := List.count_le_length (a := (32 : UInt8)) (l := l); omega
  have hrb := rule_both l
  have B0 := Lib.hid (Blk.new w 40 [.int .i64 0, .int .i64 0, .int .i64 0, .slice none 0 0])
  by_cases h2 : (cuts 32 l).length < 2
  · have hR : rdRule l = none := by rw [hrb, if_neg (by omega)]
    have HR := Lib.hid hR
    clear hrb hR hps
    generalize str l = L at *
    generalize cuts 32 l = ps at *
    go_enter Tryd.func18, Tryd.ntmps18
    (go_wp2_with fail); (go_at_call 17; refine (HC1.out _).mono ?_; rintro e w1 ⟨A1, c1, rfl, o1, b1⟩; skip)
    have B1 := Lib.hid (B0.out.up b1)
    have G1 := Lib.hid (below_via (w := w) (by go_grown) b1)
    clear b1 o1
    have r0 := B1.out.cell (i := 0) rfl
    have r1 := B1.out.cell (i := 1) rfl
    have r2 := B1.out.cell (i := 2) rfl
    have r3 := B1.out.cell (i := 3) rfl
    have rf := B1.out.free
    go_wp2
    refine bodyPost_ret (v := .tuple #[.agg #[.int .i64 0, .int .i64 0, .int .i64 0, .slice none 0 0], .bool false]) (by simp [results, Tryd.results18, go_sem, r0, r1, r2, r3]) rfl ?_
    go_light
    exact ⟨⟨0, 0, 0, []⟩, none, 0, false, rfl, World.ownsRow_nil _ _ _ _, (((G1.out.setCell (p := ⟨w.heap.size, 0, none⟩) (by simp) _).setCell (p := ⟨w.heap.size, 1, none⟩) (by simp) _).setCell (p := ⟨w.heap.size, 2, none⟩) (by simp) _).setCell (p := ⟨w.heap.size, 3, none⟩) (by simp) _, HR.out⟩
  · obtain ⟨N2, hn⟩ : ∃ N2, (cuts 32 l).length = N2 := ⟨_, rfl⟩
    have hN2 : 2 ≤ N2 := by omega
    have hN2i : ¬ (N2 : Int) < 2 := by omega
    obtain ⟨p0, hp0⟩ := some_at (l := cuts 32 l) (k := 0) rfl (by omega)
    obtain ⟨p1, hp1⟩ := some_at (l := cuts 32 l) (k := 1) rfl (by omega)
    have hl1 := hps p1 (List.mem_of_getElem? hp1)
    obtain ⟨m, hm⟩ : ∃ m, (cuts 45 p1).length = m + 1 := ⟨(cuts 45 p1).length - 1, by have := cuts_len 45 p1; omega⟩
    have hml : m ≤ 1000000 := by have := cuts_len 45 p1; have := List.count_le_length (a := (45 : UInt8)) (l := p1); omega
    obtain ⟨e0, he0⟩ := some_at (l := cuts 45 p1) (k := 0) rfl (by omega)
    obtain ⟨eL, heL⟩ := some_at (l := cuts 45 p1) (k := m) rfl (by omega)
    have hl0 : e0.length ≤ 1000000 := by have := cuts_shortT (List.mem_of_getElem? he0); omega
    have hlL : eL.length ≤ 1000000 := by have := cuts_shortT (List.mem_of_getElem? heL); omega
    have hS : spRule l = ⟨spVerdict p0, num2V e0, num2V eL, ((cuts 32 l).drop 2).map spTest⟩ := by
      unfold spRule
      rw [if_neg h2, head_at hp0, getD_at hp1, head_at he0, last_at hm heL]
    have HV := Lib.hid (fun W => l2Verdict_c p0 W)
    have HC2 := Lib.hid (fun W => cut_c p1 hl1 45 W)
    have HN0 := Lib.hid (fun W => l2Num_c e0 (by omega) W)
    have HNL := Lib.hid (fun W => l2Num_c eL (by omega) W)
    rw [hn] at HC1 hcl
    rw [hm] at HC2
    rw [hS, hn] at hrb
    have HRB := Lib.hid hrb
    have HP0 := Lib.hid hp0
    have HP1 := Lib.hid hp1
    have HE0 := Lib.hid he0
    have HEL := Lib.hid heL
    have HPS := Lib.hid hps
    have HPN := Lib.hid hn
    clear hrb hps hp0 hp1 he0 heL hS hm hn h2
    generalize spVerdict p0 = v at *
    generalize num2V e0 = lo at *
    generalize num2V eL = hi at *
    generalize hLL : str l = L at *
    have HLL := Lib.hid hLL
    clear hLL
    generalize cuts 32 l = ps at *
    generalize cuts 45 p1 = es at *
    go_enter Tryd.func18, Tryd.ntmps18
    (go_wp2_with fail); (go_at_call 17; refine (HC1.out _).mono ?_; rintro e w1 ⟨A1, c1, rfl, o1, b1⟩; skip)
    have B1 := Lib.hid (B0.out.up b1)
    have G1 := Lib.hid (below_via (w := w) (by go_grown) b1)
    obtain ⟨b, off, rfl, hb1, hc1⟩ := rd_strs (Rd.of_own o1) (by omega)
    have hb1w : w.heap.size < b := by have := (o1.lt b rfl).1; simp at this; omega
    have PS1 : Hid (∀ j p, ps[j]? = some p → w1.cell? ⟨b, off + j, none⟩ = some (.string (str p))) := Lib.hid hc1
    have g0 := hc1 0 p0 HP0.out
    simp only [Nat.add_zero] at g0
    have hs1 := G1.out.size
    clear b1 o1 hc1
    (go_wp2_with fail); (go_at_call 19; refine (HV.out _).mono ?_; rintro e w2 ⟨rfl, b2⟩; skip)
    have B2 := Lib.hid (B1.out.up b2)
    have G2 := Lib.hid (below_via G1.out b2)
    have PS2 : Hid (∀ j p, ps[j]? = some p → w2.cell? ⟨b, off + j, none⟩ = some (.string (str p))) := Lib.hid (fun j p h => (b2.cell (p := ⟨b, off + j, none⟩) hb1).trans (PS1.out j p h))
    have d1 := PS2.out 1 p1 HP1.out
    have hs2 := b2.size
    have hb2 : b < w2.heap.size := by omega
    have BR2 := Lib.hid (Blk.new w2 40 [.int .i64 v, .int .i64 0, .int .i64 0, .slice none 0 0])
    clear b2
    (go_wp2_with fail); (go_at_call 17; refine (HC2.out _).mono ?_; rintro e w3 ⟨A3, c3, rfl, o3, b3⟩; skip)
    have B3 := Lib.hid ((B2.out.alloc (.cells #[.int .i64 v, .int .i64 0, .int .i64 0, .slice none 0 0] 40)).up b3)
    have BR3 := Lib.hid (BR2.out.up b3)
    have G3 := Lib.hid (below_via G2.out (below_via (w := w2) (by go_grown) b3))
    have PS3 : Hid (∀ j p, ps[j]? = some p → w3.cell? ⟨b, off + j, none⟩ = some (.string (str p))) := Lib.hid (fun j p h => ((below_via (w := w2) (by go_grown) b3).cell (p := ⟨b, off + j, none⟩) hb2).trans (PS2.out j p h))
    obtain ⟨be, oe, rfl, hbe, hce⟩ := rd_strs (Rd.of_own o3) (by omega)
    have hbe2 : w2.heap.size < be := by have := (o3.lt be rfl).1; simp at this; omega
    have f0 := hce 0 e0 HE0.out
    have fL := hce m eL HEL.out
    simp only [Nat.add_zero] at f0
    have hs3 := b3.size
    simp at hs3
    have r1 := BR3.out.cell (i := 1) rfl
    have r2 := BR3.out.cell (i := 2) rfl
    have rf := BR3.out.free
    have L3 : Hid (Below w2.heap.size w2 w3) := Lib.hid (below_via (w := w2) (by go_grown) b3)
    clear b3 o3 hce
    (go_wp2_with fail); (go_at_call 40; refine (HN0.out _).mono ?_; rintro e w4 ⟨rfl, rfl⟩; skip)
    (go_wp2_with fail); (go_at_call 40; refine (HNL.out _).mono ?_; rintro e w5 ⟨rfl, rfl⟩; skip)
    go_wp2_with fail
    have B5 := Lib.hid ((B3.out.far (p := ⟨w2.heap.size, 1, none⟩) (by simp; omega) (.int .i64 lo)).far (p := ⟨w2.heap.size, 2, none⟩) (by simp; omega) (.int .i64 hi))
    have BR5 := Lib.hid ((BR3.out.set_ 1 (.int .i64 lo)).set_ 2 (.int .i64 hi))
    have L5 := Lib.hid ((L3.out.setCell (p := ⟨w2.heap.size, 1, none⟩) (Nat.le_refl _) (.int .i64 lo)).setCell (p := ⟨w2.heap.size, 2, none⟩) (Nat.le_refl _) (.int .i64 hi))
    go_loopg [7] (N2 - 2) (fun gk i wr => ∃ (k J : Nat) (TA : Option Addr) (c : Nat), gk + J = N2 ∧ (J ≤ k + 2 ∧ k + 2 ≤ J) ∧ i = .int .i64 J ∧ Hid (Blk wr w.heap.size 40 [.int .i64 0, .int .i64 0, .int .i64 0, .slice none 0 0]) ∧ Hid (Blk wr w2.heap.size 40 [.int .i64 v, .int .i64 lo, .int .i64 hi, .slice TA k c]) ∧ Hid (wr.ownsRow (w2.heap.size + 1) 67 4 (.slice TA k c) k (tsts (((ps.drop 2).take k).map spTest))) ∧ Hid (Below w2.heap.size w2 wr) ∧ w2.heap.size < wr.heap.size)
    case atStart => exact ⟨0, 2, none, 0, by omega, by omega, rfl, B5, BR5, Lib.hid (World.ownsRow_nil _ _ _ _), L5, by simp; omega⟩
    case round =>
      obtain ⟨k, J, TA, c, hgk, ⟨hJ1, hJ2⟩, rfl, B6, BR6, HO, HL, hz⟩ := hrel
      have hbs := HL.out.size
      have s0 := BR6.out.cell (i := 0) rfl
      have s1 := BR6.out.cell (i := 1) rfl
      have s2 := BR6.out.cell (i := 2) rfl
      have s3 := BR6.out.cell (i := 3) rfl
      have sf := BR6.out.free
      have HOB : Hid (∀ x, (Value.slice TA k c).ownBlock = some x → w2.heap.size + 1 ≤ x) := Lib.hid (fun x hx => (HO.out.lt x hx).1)
      by_cases hk : gk = 0
      · subst hk
        obtain rfl : J = N2 := by omega
        have hts : (ps.drop 2).take k = ps.drop 2 := List.take_of_length_le (by have := HPN.out; simp; omega)
        rw [hts] at HO
        have htl : ((ps.drop 2).map spTest).length = k := by have := HPN.out; simp; omega
        obtain ⟨ts, hte⟩ : ∃ ts, (ps.drop 2).map spTest = ts := ⟨_, rfl⟩
        rw [hte] at HO HRB htl
        clear hts hte
        have hJJ : ¬ (J : Int) < (J : Int) := by omega
        have Q2 := Lib.hid ((Blk.new wr 40 [.int .i64 v, .int .i64 lo, .int .i64 hi, .slice TA k c]).alloc (.cells #[.slice (some ⟨wr.heap.size, 0, none⟩) 1 1, .int .i64 1] 24))
        have hP2 := Blk.new (wr.alloc (.cells #[.int .i64 v, .int .i64 lo, .int .i64 hi, .slice TA k c] 40)) 24 [.slice (some ⟨wr.heap.size, 0, none⟩) 1 1, .int .i64 1]
        rw [World.size_alloc] at hP2
        have P2 := Lib.hid hP2
        have B8 := Lib.hid ((B6.out.alloc (.cells #[.int .i64 v, .int .i64 lo, .int .i64 hi, .slice TA k c] 40)).alloc (.cells #[.slice (some ⟨wr.heap.size, 0, none⟩) 1 1, .int .i64 1] 24))
        have R8 := Lib.hid ((BR6.out.alloc (.cells #[.int .i64 v, .int .i64 lo, .int .i64 hi, .slice TA k c] 40)).alloc (.cells #[.slice (some ⟨wr.heap.size, 0, none⟩) 1 1, .int .i64 1] 24))
        have L8 : Hid (Below wr.heap.size wr ((wr.alloc (.cells #[.int .i64 v, .int .i64 lo, .int .i64 hi, .slice TA k c] 40)).alloc (.cells #[.slice (some ⟨wr.heap.size, 0, none⟩) 1 1, .int .i64 1] 24))) := Lib.hid (by go_grown)
        have hs8 : wr.heap.size + 2 = ((wr.alloc (.cells #[.int .i64 v, .int .i64 lo, .int .i64 hi, .slice TA k c] 40)).alloc (.cells #[.slice (some ⟨wr.heap.size, 0, none⟩) 1 1, .int .i64 1] 24)).heap.size := by simp
        have O8 := Lib.hid (own_up HO.out L8.out)
        go_wp2_with fail
        generalize (wr.alloc (.cells #[.int .i64 v, .int .i64 lo, .int .i64 hi, .slice TA k c] 40)).alloc (.cells #[.slice (some ⟨wr.heap.size, 0, none⟩) 1 1, .int .i64 1] 24) = W8 at *
        have hz8 : w2.heap.size < W8.heap.size ∧ wr.heap.size + 1 < W8.heap.size := by omega
        obtain ⟨hz8a, hz8b⟩ := hz8
        clear hs8 hP2
        have G8 := Lib.hid ((G2.out.trans (HL.out.mono (by have := G2.out.size; omega))).trans (L8.out.mono (by have := G2.out.size; omega)))
        have x0 := R8.out.cell (i := 0) rfl
        have x1 := R8.out.cell (i := 1) rfl
        have x2 := R8.out.cell (i := 2) rfl
        have x3 := R8.out.cell (i := 3) rfl
        have y0 := P2.out.cell (i := 0) rfl
        have y1 := P2.out.cell (i := 1) rfl
        have hRD : RdR W8 W8.heap.size (some ⟨wr.heap.size, 0, none⟩) 1 [⟨v, lo, hi, ts⟩] := by
          refine rdR_one (t := 40) (r := ⟨v, lo, hi, ts⟩) (TA := TA) (c := c) ?_ ?_ ?_
          · show Blk _ _ _ [_, _, _, .slice TA ts.length c]
            rw [htl]
            exact Q2.out
          · show Rd _ _ _ _ ts.length _
            rw [htl]
            exact Rd.of_own O8.out
          · show ts.length ≤ _
            omega
        have RR := Lib.hid hRD
        have hpo := fun (W : World) (h : RdR W W.heap.size (some ⟨wr.heap.size, 0, none⟩) 1 [⟨v, lo, hi, ts⟩]) => specPolicyOk_c (some ⟨wr.heap.size, 0, none⟩) 1 1 [⟨v, lo, hi, ts⟩] 1 W h (by omega)
        rw [polOk_one] at hpo
        clear s0 s1 s2 s3 sf hRD
        cases hok : ruleB ⟨v, lo, hi, ts⟩ with
        | false =>
          rw [hok] at hpo
          have HPO := Lib.hid hpo
          have HN : Hid (rdRule l = none) := Lib.hid (by rw [HRB.out, if_neg (by rw [hok]; simp)])
          clear hpo hok
          refine wp_region_held_drew (S := (fun w' => w'.cell? ⟨w2.heap.size, 0, none⟩ = some (.int .i64 v) ∧ w'.cell? ⟨w2.heap.size, 1, none⟩ = some (.int .i64 lo) ∧ w'.cell? ⟨w2.heap.size, 2, none⟩ = some (.int .i64 hi) ∧ w'.cell? ⟨w2.heap.size, 3, none⟩ = some (.slice TA k c) ∧ w'.cell? ⟨wr.heap.size + 1, 0, none⟩ = some (.slice (some ⟨wr.heap.size, 0, none⟩) 1 1) ∧ w'.cell? ⟨wr.heap.size + 1, 1, none⟩ = some (.int .i64 1))) (by kernel_rfl) ?_ (fun hHeld => ?_)
          · ((try dsimp only); simp [go_sem, *])
          refine wpAnyH_take (i := 0) (oi := _) (v := ?_) rfl (by kernel_rfl) (by kernel_rfl) (by kernel_rfl) (fun _ _ _ h => h) (Or.inl ⟨by rfl, ?_⟩) (by assumption) ?_
          rotate_left
          · (intro w hSw; (try dsimp only at hSw); go_simp; (try with_reducible rfl))
          (try simp only [Act.put, List.setIfInBounds_toArray, List.set_cons_zero, List.set_cons_succ])
          refine wpAnyH_take (i := 1) (oi := _) (v := ?_) rfl (by kernel_rfl) (by kernel_rfl) (by kernel_rfl) (fun _ _ _ h => h) (Or.inl ⟨by rfl, ?_⟩) (by assumption) ?_
          rotate_left
          · (intro w hSw; (try dsimp only at hSw); go_simp; (try with_reducible rfl))
          (try simp only [Act.put, List.setIfInBounds_toArray, List.set_cons_zero, List.set_cons_succ])
          refine wpAnyH_ready (rs := [2]) (by kernel_rfl) (by simp) ?_
          refine AllReadyH.cons (o := _) rfl (fun K hK => ?_) AllReadyH.nil
          go_simp
          ((go_at_call 16; refine (HPO.out _ (RR.out.upB (by go_grown) (by go_size))).mono ?_; rintro e w9 ⟨rfl, b9⟩; have k9 := below_via (w := W8) (by go_grown) b9; have K9 := Lib.hid k9; have B9 := Lib.hid (B8.out.up k9); obtain ⟨gc9, gf9⟩ := below_get b9; (try simp only [heap_drew, World.size_alloc, World.size_setCell] at gc9 gf9); have hs9 := k9.size; have zz1 : w2.heap.size < w9.heap.size := (by omega); have zz2 : wr.heap.size + 1 < w9.heap.size := (by omega); have z0 := B9.out.cell (i := 0) rfl; have z1 := B9.out.cell (i := 1) rfl; have z2 := B9.out.cell (i := 2) rfl; have z3 := B9.out.cell (i := 3) rfl; have zf := B9.out.free; clear b9 k9))
          (try go_wp2_with fail)
          refine hK.out _ _ ?_ (fun hHeld => ?_)
          · ((try dsimp only); simp [go_sem, *])
          clear hK K
          (try simp only [Act.put, List.setIfInBounds_toArray, List.set_cons_zero, List.set_cons_succ])
          refine wpAnyH_take (i := 3) (oi := _) (v := ?_) rfl (by kernel_rfl) (by kernel_rfl) (by kernel_rfl) (fun _ _ _ h => h) (Or.inl ⟨by rfl, ?_⟩) (by assumption) ?_
          rotate_left
          · (intro w hSw; (try dsimp only at hSw); go_simp; (try with_reducible rfl))
          (try simp only [Act.put, List.setIfInBounds_toArray, List.set_cons_zero, List.set_cons_succ])
          refine wpAnyH_take (i := 4) (oi := _) (v := undef) rfl (by kernel_rfl) (by kernel_rfl) (by kernel_rfl) (fun _ _ _ h => h) (Or.inr ⟨by kernel_rfl, rfl⟩) (by assumption) ?_
          (try simp only [Act.put, List.setIfInBounds_toArray, List.set_cons_zero, List.set_cons_succ])
          refine wpAnyH_take (i := 5) (oi := _) (v := undef) rfl (by kernel_rfl) (by kernel_rfl) (by kernel_rfl) (fun _ _ _ h => h) (Or.inr ⟨by kernel_rfl, rfl⟩) (by assumption) ?_
          (try simp only [Act.put, List.setIfInBounds_toArray, List.set_cons_zero, List.set_cons_succ])
          refine wpAnyH_take (i := 6) (oi := _) (v := undef) rfl (by kernel_rfl) (by kernel_rfl) (by kernel_rfl) (fun _ _ _ h => h) (Or.inr ⟨by kernel_rfl, rfl⟩) (by assumption) ?_
          (try simp only [Act.put, List.setIfInBounds_toArray, List.set_cons_zero, List.set_cons_succ])
          refine wpAnyH_take (i := 7) (oi := _) (v := undef) rfl (by kernel_rfl) (by kernel_rfl) (by kernel_rfl) (fun _ _ _ h => h) (Or.inr ⟨by kernel_rfl, rfl⟩) (by assumption) ?_
          (try simp only [Act.put, List.setIfInBounds_toArray, List.set_cons_zero, List.set_cons_succ])
          refine wpAnyH_take (i := 8) (oi := _) (v := undef) rfl (by kernel_rfl) (by kernel_rfl) (by kernel_rfl) (fun _ _ _ h => h) (Or.inr ⟨by kernel_rfl, rfl⟩) (by assumption) ?_
          (try simp only [Act.put, List.setIfInBounds_toArray, List.set_cons_zero, List.set_cons_succ])
          refine wpAnyH_take (i := 9) (oi := _) (v := ?_) rfl (by kernel_rfl) (by kernel_rfl) (by kernel_rfl) (fun _ _ _ h => h) (Or.inl ⟨by rfl, ?_⟩) (by assumption) ?_
          rotate_left
          · (intro w hSw; (try dsimp only at hSw); go_simp; (try with_reducible rfl))
          (try simp only [Act.put, List.setIfInBounds_toArray, List.set_cons_zero, List.set_cons_succ])
          refine wpAnyH_ready (rs := [10]) (by kernel_rfl) (by simp) ?_
          refine AllReadyH.cons (o := _) rfl (fun K hK => ?_) AllReadyH.nil
          go_simp
          refine hK.out _ _ ?_ (fun hHeld => ?_)
          · ((try dsimp only); simp [go_sem, *])
          clear hK K
          (try simp only [Act.put, List.setIfInBounds_toArray, List.set_cons_zero, List.set_cons_succ])
          refine wpAnyH_take (i := 11) (oi := _) (v := ?_) rfl (by kernel_rfl) (by kernel_rfl) (by kernel_rfl) (fun _ _ _ h => h) (Or.inl ⟨by rfl, ?_⟩) (by assumption) ?_
          rotate_left
          · (intro w hSw; (try dsimp only at hSw); go_simp; (try with_reducible rfl))
          (try simp only [Act.put, List.setIfInBounds_toArray, List.set_cons_zero, List.set_cons_succ])
          refine wpAnyH_done (by kernel_rfl) ?_ _
          simp only [List.getElem_toArray, List.getElem_cons_zero, List.getElem_cons_succ, List.setIfInBounds_toArray, List.set_cons_zero, List.set_cons_succ]
          go_wp2
          refine bodyPost_ret (v := .tuple #[.agg #[.int .i64 v, .int .i64 lo, .int .i64 hi, .slice TA k c], .bool false]) (by simp [results, Tryd.results18, go_sem, z0, z1, z2, z3]) rfl ?_
          go_light
          exact ⟨⟨v, lo, hi, ts⟩, TA, c, false, by show _ = Ending.returned (.tuple #[.agg #[_, _, _, .slice TA ts.length c], _]); rw [htl], by show World.ownsRow _ _ _ _ (.slice TA ts.length c) ts.length _; rw [htl]; exact own_base (ownsRow_setCell_below (ownsRow_setCell_below (ownsRow_setCell_below (ownsRow_setCell_below (own_up O8.out K9.out) (a := ⟨w.heap.size, 0, none⟩) (by simp; omega) _) (a := ⟨w.heap.size, 1, none⟩) (by simp; omega) _) (a := ⟨w.heap.size, 2, none⟩) (by simp; omega) _) (a := ⟨w.heap.size, 3, none⟩) (by simp; omega) _) (by omega), ((((G8.out.trans (K9.out.mono G8.out.size)).setCell (p := ⟨w.heap.size, 0, none⟩) (by simp) _).setCell (p := ⟨w.heap.size, 1, none⟩) (by simp) _).setCell (p := ⟨w.heap.size, 2, none⟩) (by simp) _).setCell (p := ⟨w.heap.size, 3, none⟩) (by simp) _, HN.out⟩
        | true =>
          rw [hok] at hpo
          have HPO := Lib.hid hpo
          have hln := fun (W : World) (h : Rd W W.heap.size 4 TA k (tsts ts)) => line_c ⟨v, lo, hi, ts⟩ TA c W hok (by show Rd _ _ _ _ ts.length _; rw [htl]; exact h)
          simp only [htl] at hln
          have HLN := Lib.hid hln
          clear hpo hln
          have hq := str_eqb (lineT ⟨v, lo, hi, ts⟩) (l ++ [10])
          have ha1 : ∀ W, (Op.stringOp .add L ⟨#[10]⟩).run Tryd.prog W = .ok (.string (str (l ++ [10]))) W := fun W => by
            rw [← HLL.out]
            exact cat_run (a := l) (b := [10]) rfl (by simp; omega) W
          by_cases heq : lineT ⟨v, lo, hi, ts⟩ = l ++ [10]
          · have HN : Hid (rdRule l = some ⟨v, lo, hi, ts⟩) := Lib.hid (by rw [HRB.out, if_pos ⟨by omega, hok, heq⟩])
            rw [decide_eq_true heq] at hq
            generalize str (lineT ⟨v, lo, hi, ts⟩) = S1 at *
            generalize str (l ++ [10]) = S2 at *
            clear heq hok
            refine wp_region_held_drew (S := (fun w' => w'.cell? ⟨w2.heap.size, 0, none⟩ = some (.int .i64 v) ∧ w'.cell? ⟨w2.heap.size, 1, none⟩ = some (.int .i64 lo) ∧ w'.cell? ⟨w2.heap.size, 2, none⟩ = some (.int .i64 hi) ∧ w'.cell? ⟨w2.heap.size, 3, none⟩ = some (.slice TA k c) ∧ w'.cell? ⟨wr.heap.size + 1, 0, none⟩ = some (.slice (some ⟨wr.heap.size, 0, none⟩) 1 1) ∧ w'.cell? ⟨wr.heap.size + 1, 1, none⟩ = some (.int .i64 1))) (by kernel_rfl) ?_ (fun hHeld => ?_)
            · ((try dsimp only); simp [go_sem, *])
            refine wpAnyH_take (i := 0) (oi := _) (v := ?_) rfl (by kernel_rfl) (by kernel_rfl) (by kernel_rfl) (fun _ _ _ h => h) (Or.inl ⟨by rfl, ?_⟩) (by assumption) ?_
            rotate_left
            · (intro w hSw; (try dsimp only at hSw); go_simp; (try with_reducible rfl))
            (try simp only [Act.put, List.setIfInBounds_toArray, List.set_cons_zero, List.set_cons_succ])
            refine wpAnyH_take (i := 1) (oi := _) (v := ?_) rfl (by kernel_rfl) (by kernel_rfl) (by kernel_rfl) (fun _ _ _ h => h) (Or.inl ⟨by rfl, ?_⟩) (by assumption) ?_
            rotate_left
            · (intro w hSw; (try dsimp only at hSw); go_simp; (try with_reducible rfl))
            (try simp only [Act.put, List.setIfInBounds_toArray, List.set_cons_zero, List.set_cons_succ])
            refine wpAnyH_ready (rs := [2]) (by kernel_rfl) (by simp) ?_
            refine AllReadyH.cons (o := _) rfl (fun K hK => ?_) AllReadyH.nil
            go_simp
            ((go_at_call 16; refine (HPO.out _ (RR.out.upB (by go_grown) (by go_size))).mono ?_; rintro e w9 ⟨rfl, b9⟩; have k9 := below_via (w := W8) (by go_grown) b9; have K9 := Lib.hid k9; have B9 := Lib.hid (B8.out.up k9); obtain ⟨gc9, gf9⟩ := below_get b9; (try simp only [heap_drew, World.size_alloc, World.size_setCell] at gc9 gf9); have hs9 := k9.size; have zz1 : w2.heap.size < w9.heap.size := (by omega); have zz2 : wr.heap.size + 1 < w9.heap.size := (by omega); have z0 := B9.out.cell (i := 0) rfl; have z1 := B9.out.cell (i := 1) rfl; have z2 := B9.out.cell (i := 2) rfl; have z3 := B9.out.cell (i := 3) rfl; have zf := B9.out.free; clear b9 k9))
            (try go_wp2_with fail)
            refine hK.out _ _ ?_ (fun hHeld => ?_)
            · ((try dsimp only); simp [go_sem, *])
            clear hK K
            (try simp only [Act.put, List.setIfInBounds_toArray, List.set_cons_zero, List.set_cons_succ])
            refine wpAnyH_take (i := 3) (oi := _) (v := ?_) rfl (by kernel_rfl) (by kernel_rfl) (by kernel_rfl) (fun _ _ _ h => h) (Or.inl ⟨by rfl, ?_⟩) (by assumption) ?_
            rotate_left
            · (intro w hSw; (try dsimp only at hSw); go_simp; (try with_reducible rfl))
            (try simp only [Act.put, List.setIfInBounds_toArray, List.set_cons_zero, List.set_cons_succ])
            refine wpAnyH_take (i := 4) (oi := _) (v := ?_) rfl (by kernel_rfl) (by kernel_rfl) (by kernel_rfl) (fun _ _ _ h => h) (Or.inl ⟨by rfl, ?_⟩) (by assumption) ?_
            rotate_left
            · (intro w hSw; (try dsimp only at hSw); go_simp; (try with_reducible rfl))
            (try simp only [Act.put, List.setIfInBounds_toArray, List.set_cons_zero, List.set_cons_succ])
            refine wpAnyH_take (i := 6) (oi := _) (v := ?_) rfl (by kernel_rfl) (by kernel_rfl) (by kernel_rfl) (fun _ _ _ h => h) (Or.inl ⟨by rfl, ?_⟩) (by assumption) ?_
            rotate_left
            · (intro w hSw; (try dsimp only at hSw); go_simp; (try with_reducible rfl))
            (try simp only [Act.put, List.setIfInBounds_toArray, List.set_cons_zero, List.set_cons_succ])
            refine wpAnyH_take (i := 7) (oi := _) (v := ?_) rfl (by kernel_rfl) (by kernel_rfl) (by kernel_rfl) (fun _ _ _ h => h) (Or.inl ⟨by rfl, ?_⟩) (by assumption) ?_
            rotate_left
            · (intro w hSw; (try dsimp only at hSw); go_simp; (try with_reducible rfl))
            (try simp only [Act.put, List.setIfInBounds_toArray, List.set_cons_zero, List.set_cons_succ])
            refine wpAnyH_ready (rs := [5]) (by kernel_rfl) (by simp) ?_
            refine AllReadyH.cons (o := _) rfl (fun K hK => ?_) AllReadyH.nil
            go_simp
            ((go_at_call 42; refine (HLN.out _ (Rd.of_own (own_up O8.out (show Below W8.heap.size W8 _ from below_via K9.out (by go_grown))))).mono ?_; rintro e wL ⟨rfl, bL⟩; have kL := below_via K9.out (below_via (w := w9) (by go_grown) bL); have KL := Lib.hid kL; have BL := Lib.hid (B8.out.up kL); obtain ⟨gcL, gfL⟩ := below_get bL; (try simp only [heap_drew, World.size_alloc, World.size_setCell] at gcL gfL); have hsL := bL.size; (try simp at hsL); have q0 := BL.out.cell (i := 0) rfl; have q1 := BL.out.cell (i := 1) rfl; have q2 := BL.out.cell (i := 2) rfl; have q3 := BL.out.cell (i := 3) rfl; have qf := BL.out.free; clear bL kL))
            (try go_wp2_with fail)
            refine hK.out _ _ ?_ (fun hHeld => ?_)
            · ((try dsimp only); simp [go_sem, *])
            clear hK K
            (try simp only [Act.put, List.setIfInBounds_toArray, List.set_cons_zero, List.set_cons_succ])
            refine wpAnyH_take (i := 8) (oi := _) (v := ?_) rfl (by kernel_rfl) (by kernel_rfl) (by kernel_rfl) (fun _ _ _ h => h) (Or.inl ⟨by rfl, ?_⟩) (by assumption) ?_
            rotate_left
            · (intro w hSw; (try dsimp only at hSw); go_simp; (try with_reducible rfl))
            (try simp only [Act.put, List.setIfInBounds_toArray, List.set_cons_zero, List.set_cons_succ])
            refine wpAnyH_take (i := 9) (oi := _) (v := ?_) rfl (by kernel_rfl) (by kernel_rfl) (by kernel_rfl) (fun _ _ _ h => h) (Or.inl ⟨by rfl, ?_⟩) (by assumption) ?_
            rotate_left
            · (intro w hSw; (try dsimp only at hSw); go_simp; (try with_reducible rfl))
            (try simp only [Act.put, List.setIfInBounds_toArray, List.set_cons_zero, List.set_cons_succ])
            refine wpAnyH_ready (rs := [10]) (by kernel_rfl) (by simp) ?_
            refine AllReadyH.cons (o := _) rfl (fun K hK => ?_) AllReadyH.nil
            go_simp
            refine hK.out _ _ ?_ (fun hHeld => ?_)
            · ((try dsimp only); simp [go_sem, *])
            clear hK K
            (try simp only [Act.put, List.setIfInBounds_toArray, List.set_cons_zero, List.set_cons_succ])
            refine wpAnyH_take (i := 11) (oi := _) (v := ?_) rfl (by kernel_rfl) (by kernel_rfl) (by kernel_rfl) (fun _ _ _ h => h) (Or.inl ⟨by rfl, ?_⟩) (by assumption) ?_
            rotate_left
            · (intro w hSw; (try dsimp only at hSw); go_simp; (try with_reducible rfl))
            (try simp only [Act.put, List.setIfInBounds_toArray, List.set_cons_zero, List.set_cons_succ])
            refine wpAnyH_done (by kernel_rfl) ?_ _
            (try simp only [List.getElem_toArray, List.getElem_cons_zero, List.getElem_cons_succ, List.setIfInBounds_toArray, List.set_cons_zero, List.set_cons_succ])
            go_wp2
            refine bodyPost_ret (v := .tuple #[.agg #[.int .i64 v, .int .i64 lo, .int .i64 hi, .slice TA k c], .bool true]) (by simp [results, Tryd.results18, go_sem, q0, q1, q2, q3]) rfl ?_
            go_light
            exact ⟨⟨v, lo, hi, ts⟩, TA, c, true, by show _ = Ending.returned (.tuple #[.agg #[_, _, _, .slice TA ts.length c], _]); rw [htl], by show World.ownsRow _ _ _ _ (.slice TA ts.length c) ts.length _; rw [htl]; exact own_base (ownsRow_setCell_below (ownsRow_setCell_below (ownsRow_setCell_below (ownsRow_setCell_below (own_up O8.out KL.out) (a := ⟨w.heap.size, 0, none⟩) (by simp; omega) _) (a := ⟨w.heap.size, 1, none⟩) (by simp; omega) _) (a := ⟨w.heap.size, 2, none⟩) (by simp; omega) _) (a := ⟨w.heap.size, 3, none⟩) (by simp; omega) _) (by omega), ((((G8.out.trans (KL.out.mono G8.out.size)).setCell (p := ⟨w.heap.size, 0, none⟩) (by simp) _).setCell (p := ⟨w.heap.size, 1, none⟩) (by simp) _).setCell (p := ⟨w.heap.size, 2, none⟩) (by simp) _).setCell (p := ⟨w.heap.size, 3, none⟩) (by simp) _, HN.out⟩
          · have HN : Hid (rdRule l = none) := Lib.hid (by rw [HRB.out, if_neg (fun h => heq h.2.2)])
            rw [decide_eq_false heq] at hq
            generalize str (lineT ⟨v, lo, hi, ts⟩) = S1 at *
            generalize str (l ++ [10]) = S2 at *
            clear heq hok
            refine wp_region_held_drew (S := (fun w' => w'.cell? ⟨w2.heap.size, 0, none⟩ = some (.int .i64 v) ∧ w'.cell? ⟨w2.heap.size, 1, none⟩ = some (.int .i64 lo) ∧ w'.cell? ⟨w2.heap.size, 2, none⟩ = some (.int .i64 hi) ∧ w'.cell? ⟨w2.heap.size, 3, none⟩ = some (.slice TA k c) ∧ w'.cell? ⟨wr.heap.size + 1, 0, none⟩ = some (.slice (some ⟨wr.heap.size, 0, none⟩) 1 1) ∧ w'.cell? ⟨wr.heap.size + 1, 1, none⟩ = some (.int .i64 1))) (by kernel_rfl) ?_ (fun hHeld => ?_)
            · ((try dsimp only); simp [go_sem, *])
            refine wpAnyH_take (i := 0) (oi := _) (v := ?_) rfl (by kernel_rfl) (by kernel_rfl) (by kernel_rfl) (fun _ _ _ h => h) (Or.inl ⟨by rfl, ?_⟩) (by assumption) ?_
            rotate_left
            · (intro w hSw; (try dsimp only at hSw); go_simp; (try with_reducible rfl))
            (try simp only [Act.put, List.setIfInBounds_toArray, List.set_cons_zero, List.set_cons_succ])
            refine wpAnyH_take (i := 1) (oi := _) (v := ?_) rfl (by kernel_rfl) (by kernel_rfl) (by kernel_rfl) (fun _ _ _ h => h) (Or.inl ⟨by rfl, ?_⟩) (by assumption) ?_
            rotate_left
            · (intro w hSw; (try dsimp only at hSw); go_simp; (try with_reducible rfl))
            (try simp only [Act.put, List.setIfInBounds_toArray, List.set_cons_zero, List.set_cons_succ])
            refine wpAnyH_ready (rs := [2]) (by kernel_rfl) (by simp) ?_
            refine AllReadyH.cons (o := _) rfl (fun K hK => ?_) AllReadyH.nil
            go_simp
            ((go_at_call 16; refine (HPO.out _ (RR.out.upB (by go_grown) (by go_size))).mono ?_; rintro e w9 ⟨rfl, b9⟩; have k9 := below_via (w := W8) (by go_grown) b9; have K9 := Lib.hid k9; have B9 := Lib.hid (B8.out.up k9); obtain ⟨gc9, gf9⟩ := below_get b9; (try simp only [heap_drew, World.size_alloc, World.size_setCell] at gc9 gf9); have hs9 := k9.size; have zz1 : w2.heap.size < w9.heap.size := (by omega); have zz2 : wr.heap.size + 1 < w9.heap.size := (by omega); have z0 := B9.out.cell (i := 0) rfl; have z1 := B9.out.cell (i := 1) rfl; have z2 := B9.out.cell (i := 2) rfl; have z3 := B9.out.cell (i := 3) rfl; have zf := B9.out.free; clear b9 k9))
            (try go_wp2_with fail)
            refine hK.out _ _ ?_ (fun hHeld => ?_)
            · ((try dsimp only); simp [go_sem, *])
            clear hK K
            (try simp only [Act.put, List.setIfInBounds_toArray, List.set_cons_zero, List.set_cons_succ])
            refine wpAnyH_take (i := 3) (oi := _) (v := ?_) rfl (by kernel_rfl) (by kernel_rfl) (by kernel_rfl) (fun _ _ _ h => h) (Or.inl ⟨by rfl, ?_⟩) (by assumption) ?_
            rotate_left
            · (intro w hSw; (try dsimp only at hSw); go_simp; (try with_reducible rfl))
            (try simp only [Act.put, List.setIfInBounds_toArray, List.set_cons_zero, List.set_cons_succ])
            refine wpAnyH_take (i := 4) (oi := _) (v := ?_) rfl (by kernel_rfl) (by kernel_rfl) (by kernel_rfl) (fun _ _ _ h => h) (Or.inl ⟨by rfl, ?_⟩) (by assumption) ?_
            rotate_left
            · (intro w hSw; (try dsimp only at hSw); go_simp; (try with_reducible rfl))
            (try simp only [Act.put, List.setIfInBounds_toArray, List.set_cons_zero, List.set_cons_succ])
            refine wpAnyH_take (i := 6) (oi := _) (v := ?_) rfl (by kernel_rfl) (by kernel_rfl) (by kernel_rfl) (fun _ _ _ h => h) (Or.inl ⟨by rfl, ?_⟩) (by assumption) ?_
            rotate_left
            · (intro w hSw; (try dsimp only at hSw); go_simp; (try with_reducible rfl))
            (try simp only [Act.put, List.setIfInBounds_toArray, List.set_cons_zero, List.set_cons_succ])
            refine wpAnyH_take (i := 7) (oi := _) (v := ?_) rfl (by kernel_rfl) (by kernel_rfl) (by kernel_rfl) (fun _ _ _ h => h) (Or.inl ⟨by rfl, ?_⟩) (by assumption) ?_
            rotate_left
            · (intro w hSw; (try dsimp only at hSw); go_simp; (try with_reducible rfl))
            (try simp only [Act.put, List.setIfInBounds_toArray, List.set_cons_zero, List.set_cons_succ])
            refine wpAnyH_ready (rs := [5]) (by kernel_rfl) (by simp) ?_
            refine AllReadyH.cons (o := _) rfl (fun K hK => ?_) AllReadyH.nil
            go_simp
            ((go_at_call 42; refine (HLN.out _ (Rd.of_own (own_up O8.out (show Below W8.heap.size W8 _ from below_via K9.out (by go_grown))))).mono ?_; rintro e wL ⟨rfl, bL⟩; have kL := below_via K9.out (below_via (w := w9) (by go_grown) bL); have KL := Lib.hid kL; have BL := Lib.hid (B8.out.up kL); obtain ⟨gcL, gfL⟩ := below_get bL; (try simp only [heap_drew, World.size_alloc, World.size_setCell] at gcL gfL); have hsL := bL.size; (try simp at hsL); have q0 := BL.out.cell (i := 0) rfl; have q1 := BL.out.cell (i := 1) rfl; have q2 := BL.out.cell (i := 2) rfl; have q3 := BL.out.cell (i := 3) rfl; have qf := BL.out.free; clear bL kL))
            (try go_wp2_with fail)
            refine hK.out _ _ ?_ (fun hHeld => ?_)
            · ((try dsimp only); simp [go_sem, *])
            clear hK K
            (try simp only [Act.put, List.setIfInBounds_toArray, List.set_cons_zero, List.set_cons_succ])
            refine wpAnyH_take (i := 8) (oi := _) (v := ?_) rfl (by kernel_rfl) (by kernel_rfl) (by kernel_rfl) (fun _ _ _ h => h) (Or.inl ⟨by rfl, ?_⟩) (by assumption) ?_
            rotate_left
            · (intro w hSw; (try dsimp only at hSw); go_simp; (try with_reducible rfl))
            (try simp only [Act.put, List.setIfInBounds_toArray, List.set_cons_zero, List.set_cons_succ])
            refine wpAnyH_take (i := 9) (oi := _) (v := ?_) rfl (by kernel_rfl) (by kernel_rfl) (by kernel_rfl) (fun _ _ _ h => h) (Or.inl ⟨by rfl, ?_⟩) (by assumption) ?_
            rotate_left
            · (intro w hSw; (try dsimp only at hSw); go_simp; (try with_reducible rfl))
            (try simp only [Act.put, List.setIfInBounds_toArray, List.set_cons_zero, List.set_cons_succ])
            refine wpAnyH_ready (rs := [10]) (by kernel_rfl) (by simp) ?_
            refine AllReadyH.cons (o := _) rfl (fun K hK => ?_) AllReadyH.nil
            go_simp
            refine hK.out _ _ ?_ (fun hHeld => ?_)
            · ((try dsimp only); simp [go_sem, *])
            clear hK K
            (try simp only [Act.put, List.setIfInBounds_toArray, List.set_cons_zero, List.set_cons_succ])
            refine wpAnyH_take (i := 11) (oi := _) (v := ?_) rfl (by kernel_rfl) (by kernel_rfl) (by kernel_rfl) (fun _ _ _ h => h) (Or.inl ⟨by rfl, ?_⟩) (by assumption) ?_
            rotate_left
            · (intro w hSw; (try dsimp only at hSw); go_simp; (try with_reducible rfl))
            (try simp only [Act.put, List.setIfInBounds_toArray, List.set_cons_zero, List.set_cons_succ])
            refine wpAnyH_done (by kernel_rfl) ?_ _
            (try simp only [List.getElem_toArray, List.getElem_cons_zero, List.getElem_cons_succ, List.setIfInBounds_toArray, List.set_cons_zero, List.set_cons_succ])
            go_wp2
            refine bodyPost_ret (v := .tuple #[.agg #[.int .i64 v, .int .i64 lo, .int .i64 hi, .slice TA k c], .bool false]) (by simp [results, Tryd.results18, go_sem, q0, q1, q2, q3]) rfl ?_
            go_light
            exact ⟨⟨v, lo, hi, ts⟩, TA, c, false, by show _ = Ending.returned (.tuple #[.agg #[_, _, _, .slice TA ts.length c], _]); rw [htl], by show World.ownsRow _ _ _ _ (.slice TA ts.length c) ts.length _; rw [htl]; exact own_base (ownsRow_setCell_below (ownsRow_setCell_below (ownsRow_setCell_below (ownsRow_setCell_below (own_up O8.out KL.out) (a := ⟨w.heap.size, 0, none⟩) (by simp; omega) _) (a := ⟨w.heap.size, 1, none⟩) (by simp; omega) _) (a := ⟨w.heap.size, 2, none⟩) (by simp; omega) _) (a := ⟨w.heap.size, 3, none⟩) (by simp; omega) _) (by omega), ((((G8.out.trans (KL.out.mono G8.out.size)).setCell (p := ⟨w.heap.size, 0, none⟩) (by simp) _).setCell (p := ⟨w.heap.size, 1, none⟩) (by simp) _).setCell (p := ⟨w.heap.size, 2, none⟩) (by simp) _).setCell (p := ⟨w.heap.size, 3, none⟩) (by simp) _, HN.out⟩
      · obtain ⟨G, rfl⟩ : ∃ j, gk = j + 1 := ⟨gk - 1, by omega⟩
        obtain ⟨p, hp⟩ := some_at (l := ps) (k := J) HPN.out (by omega)
        have hpl := HPS.out p (List.mem_of_getElem? hp)
        have hpc := (HL.out.cell (p := ⟨b, off + J, none⟩) hb2).trans (PS2.out J p hp)
        have HT := Lib.hid (fun W => l2Test_c p hpl W)
        have HTS : Hid (((ps.drop 2).take (k + 1)).map spTest = ((ps.drop 2).take k).map spTest ++ [spTest p]) := Lib.hid (by
          rw [List.take_add_one, List.getElem?_drop, show 2 + k = J by omega, hp]
          simp)
        generalize spTest p = t at *
        obtain ⟨tf, tm, top, tx⟩ := t
        unfold tstV at HT
        simp only at HT
        have hkn : J < N2 := by omega
        have hk18 : k ≤ 1000001 := by omega
        clear hp
        generalize ((ps.drop 2).take k).map spTest = X at *
        go_wp2_with fail
        go_region_law (first
          | (refine step_append_rd _ (by rfl) _ _ _ (by rfl) (w2.heap.size + 1) 67 j0 _ 4 32 Tryd.underlying38 hj0 hy0 hy1 hy2 rfl (by omega) (.slice TA k c) k (tsts X) (by rfl) (HR9.out.alloc _) (w9.heap.size + 1) (some ⟨w9.heap.size, 0, none⟩) 1 1 _ (by rfl) (rd_tst w9 ⟨tf, tm, top, tx⟩ _) (one_tcell _) (by unfold maxLen; omega) (by omega) (by simp; omega) ?_; intro A10 c10 w10 ho10 hg10 ha10; have B10 := Lib.hid ((B9.out.alloc _).other hg10 (fun e => by have := HOB.out _ e; omega)); have Y10 := Lib.hid ((Y9.out.alloc _).other hg10 (fun e => by have := HOB.out _ e; omega)); have y30 := Y10.out.cell (i := 3) rfl; have yf0 := Y10.out.free; have hs10 := hg10.size; simp at hs10; have L10 := Lib.hid ((L9.out.alloc (by omega) _).grown hg10 (by simp; omega) (fun x e => by have := HOB.out x e; omega)); have R10 := Lib.hid ho10; clear ho10 hg10 ha10)
          | (go_simp; go_at_call 41; refine (HT.out _).mono ?_; rintro e w9 ⟨rfl, b9⟩; have k9 := below_via (w := wr) (by go_grown) b9; have HR9 := Lib.hid (own_up HO.out k9); have B9 := Lib.hid (B6.out.up k9); have Y9 := Lib.hid (BR6.out.up k9); have y39 := Y9.out.cell (i := 3) rfl; have yf9 := Y9.out.free; have hs9 := k9.size; have z9 : w2.heap.size < w9.heap.size := (by omega); have L9 := Lib.hid (HL.out.trans (k9.mono hbs)); clear b9 k9))
        all_goals
          go_wp2
          go_roundg G
          case measure => omega
          case rel =>
            go_light
            refine ⟨k + 1, J + 1, A10, c10, by omega, by omega, by go_num, B10.out.far (by simp; omega) _, Y10.out.set_ 3 _, Lib.hid ?_, Lib.hid (L10.out.setCell (p := ⟨w2.heap.size, 3, none⟩) (Nat.le_refl _) _), by simp; omega⟩
            rw [HTS.out, tsts_add]
            exact ownsRow_setCell_below R10.out (a := ⟨w2.heap.size, 3, none⟩) (by simp) _
end Go.Proofs.YtflhniobbdanjaaDoor
