/- The reference's PolicyRead. Condition: the text's size. -/
import Derived.Test.YtflhniobbdanjaaDoorJbcad6dcc71
namespace Go.Proofs.YtflhniobbdanjaaDoor
set_option linter.unusedSimpArgs false
open Go.RowKit
set_option linter.unusedVariables false
set_option linter.unnecessarySimpa false
set_option maxRecDepth 20000
/-- What is left to be read, behind what has been. -/
def exB (rs : List Rl) : Except Nat (List Rl) → Except Nat (List Rl)
  | .ok rs' => .ok (rs ++ rs')
  | .error e => .error e
theorem exB_nil (x : Except Nat (List Rl)) : exB [] x = x := by cases x <;> rfl
theorem rdRowsB_yes {k : Nat} {l : List UInt8} {ls : List (List UInt8)} {r : Rl} {rs : List Rl} (h8 : k < 8) (hr : rdRule l = some r) : exB rs (rdRows k (l :: ls)) = exB (rs ++ [r]) (rdRows (k + 1) ls) := by
  rw [rdRows, if_neg (by omega), hr]
  cases rdRows (k + 1) ls with
  | error e => rfl
  | ok rs' => simp [exB]
theorem rdRowsB_no {k : Nat} {l : List UInt8} {ls : List (List UInt8)} {rs : List Rl} (h : 8 ≤ k ∨ rdRule l = none) : exB rs (rdRows k (l :: ls)) = .error (k + 1) := by
  rw [rdRows]
  by_cases h8 : 8 ≤ k
  · rw [if_pos h8]; rfl
  · rw [if_neg h8]
    rcases h with h | h
    · exact absurd h h8
    · rw [h]; rfl
/-- The call returns what was read, in memory of its own. -/
def RetReadS (ER ET : Nat) (q : Pol × Int) (w : World) (e : Ending) (w' : World) : Prop :=
  ∃ A c qs, e = .returned (.tuple #[.agg #[.slice A q.1.rs.length c, .int .i64 q.1.els], .int .i64 q.2]) ∧ rls qs = q.1.rs ∧ OP w' w.heap.size w'.heap.size ER ET A q.1.rs.length c qs ∧ Apart qs ∧ Below w.heap.size w w'
theorem RetReadS.none_ {ER ET : Nat} {n : Int} {w w' : World} (h : Below w.heap.size w w') : RetReadS ER ET (⟨[], 0⟩, n) w (.returned (.tuple #[.agg #[.slice none 0 0, .int .i64 0], .int .i64 n])) w' :=
  ⟨none, 0, [], rfl, rfl, OP.nil_ _ _ _ _ _, Apart.nil_, h⟩
theorem cut_big (l : List UInt8) (hl : l.length ≤ 1048576) (c : UInt8) (w : World) : Calls Tryd.prog 17 #[.string (str l), .int .u8 c.toNat] w (RetOwn 9 1 (cuts c l).length (strsC ((cuts c l).map str)) w) := by
  have h := l2Cut_c (str l) c (by rw [str_size]; omega) w
  rw [cutL_str, List.length_map] at h
  exact h
set_option maxHeartbeats 4000000 in
set_option maxRecDepth 100000 in
theorem readS_c (l : List UInt8) (hl : l.length ≤ 1048576) (w : World) :
    Calls Tryd.prog 5 #[.string (str l)] w (RetReadS 40 67 (readF l) w) := by
  obtain ⟨i0, hi0, hz0, hz1, hz2⟩ := info_parts info_rule
  have hsz := str_size l
  have HC1 := Lib.hid (fun W => cut_big l hl 10 W)
  obtain ⟨n, hn⟩ : ∃ n, (cuts 10 l).length = n + 1 := ⟨(cuts 10 l).length - 1, by have := cuts_len 10 l; omega⟩
  have hn9 : n ≤ 1048576 := by have := cuts_len 10 l; have := List.count_le_length (a := (10 : UInt8)) (l := l); omega
  rw [hn] at HC1
  have B0 := Lib.hid (Blk.new w 24 [.slice none 0 0, .int .i64 0])
  by_cases h9 : 900 < l.length
  · have hR : readF l = (⟨[], 0⟩, 1) := by unfold readF; rw [if_pos (.inl h9)]
    have HR := Lib.hid hR
    have hd : decide ((900 : Int) < ((str l).size : Int)) = true := by simp; omega
    clear hn hR
    generalize str l = L at *
    generalize cuts 10 l = ps at *
    generalize readF l = RF at *
    go_enter Tryd.func5, Tryd.ntmps5
    (go_wp2_with fail); (go_at_call 17; refine (HC1.out _).mono ?_; rintro e w1 ⟨A1, c1, rfl, o1, b1⟩; skip)
    have B1 := Lib.hid (B0.out.up b1)
    have G1 := Lib.hid (below_via (w := w) (by go_grown) b1)
    clear b1 o1
    have r0 := B1.out.cell (i := 0) rfl
    have r1 := B1.out.cell (i := 1) rfl
    have rf := B1.out.free
    have hs1 := B1.out.lt
    go_wp2
    refine bodyPost_ret (v := .tuple #[.agg #[.slice none 0 0, .int .i64 0], .int .i64 1]) (by simp [results, Tryd.results5, go_sem, r0, r1, hs1]) rfl ?_
    go_light
    rw [HR.out]
    exact RetReadS.none_ (((G1.out.setCell (p := ⟨w.heap.size, 0, none⟩) (by simp) _).setCell (p := ⟨w.heap.size, 1, none⟩) (by simp) _).alloc (by simp; omega) _)
  · have hd : decide ((900 : Int) < ((str l).size : Int)) = false := by simp; omega
    have hps : ∀ p ∈ cuts 10 l, p.length ≤ 1000000 := fun p hp => by have := cuts_shortT hp; omega
    have hn10 : n ≤ 1000000 := by have := cuts_len 10 l; have := List.count_le_length (a := (10 : UInt8)) (l := l); omega
    have HF : Hid (readF l = if n = 0 then (⟨[], 0⟩, 1) else match rdRows 0 ((cuts 10 l).take (n - 1)) with
      | .error e => (⟨[], 0⟩, (e : Int))
      | .ok rs => match rdElse ((cuts 10 l).getD (n - 1) []) with
        | none => (⟨[], 0⟩, (n : Int))
        | some v => if (cuts 10 l).getD n [] = [] then (⟨rs, v⟩, 0) else (⟨[], 0⟩, (n : Int) + 1)) := Lib.hid (by
      unfold readF
      rw [hn]
      by_cases h0 : n = 0
      · rw [if_pos h0, if_pos (.inr (by omega))]
      · rw [if_neg h0, if_neg (by omega)]
        have e1 : n + 1 - 2 = n - 1 := by omega
        have e2 : n + 1 - 1 = n := by omega
        have e3 : ((n + 1 : Nat) : Int) - 1 = n := by omega
        have e4 : ((n + 1 : Nat) : Int) = n + 1 := by omega
        rw [e1, e2, e3, e4]
        rfl)
    have HPS := Lib.hid hps
    have HN := Lib.hid hn
    clear hps hn
    generalize str l = L at *
    generalize cuts 10 l = ps at *
    generalize readF l = RF at *
    go_enter Tryd.func5, Tryd.ntmps5
    (go_wp2_with fail); (go_at_call 17; refine (HC1.out _).mono ?_; rintro e w1 ⟨A1, c1, rfl, o1, b1⟩; skip)
    have B1 := Lib.hid (B0.out.up b1)
    have G1 := Lib.hid (below_via (w := w) (by go_grown) b1)
    obtain ⟨b, off, rfl, hb1, hc1⟩ := rd_strs (Rd.of_own o1) (by omega)
    have PS1 : Hid (∀ j p, ps[j]? = some p → w1.cell? ⟨b, off + j, none⟩ = some (.string (str p))) := Lib.hid hc1
    have hbw : w.heap.size < b := by have := (o1.lt b rfl).1; simp at this; omega
    clear b1 o1 hc1
    have hs1 := B1.out.lt
    go_wp2_with fail
    go_loopg [7] (n - 1) (fun gk i wr => ∃ (k : Nat) (Ao : Option Addr) (co : Nat) (qs : List (Rl × Value)), gk + k = n - 1 ∧ i = .int .i64 k ∧ Hid (rdRows 0 (ps.take (n - 1)) = exB (rls qs) (rdRows k ((ps.take (n - 1)).drop k))) ∧ Hid (Blk wr w1.heap.size 24 [.slice Ao k co, .int .i64 0]) ∧ Hid (OP wr (w1.heap.size + 1) wr.heap.size 40 67 Ao k co qs) ∧ Hid (Apart qs) ∧ Hid (Below w1.heap.size w1 wr) ∧ w1.heap.size < wr.heap.size)
    case atStart => exact ⟨0, none, 0, [], by omega, rfl, Lib.hid (by rw [show rls [] = [] from rfl, exB_nil, List.drop_zero]), Lib.hid (Blk.new w1 24 [.slice none 0 0, .int .i64 0]), Lib.hid (OP.nil_ _ _ _ _ _), Lib.hid Apart.nil_, by show Below _ _ _; go_grown, by simp⟩
    case round =>
      obtain ⟨k, Ao, co, qs, hgk, rfl, HR, BP, HO, HA, HL, hz⟩ := hrel
      have hbs := HL.out.size
      have p0 := BP.out.cell (i := 0) rfl
      have p1 := BP.out.cell (i := 1) rfl
      have pf := BP.out.free
      have BW := Lib.hid (B1.out.below HL.out hs1)
      have HOB : Hid (∀ b, (Value.slice Ao k co).ownBlock = some b → w1.heap.size + 1 ≤ b) := Lib.hid (fun b e => (HO.out.lt b e).1)
      by_cases hk : gk = 0
      · subst hk
        have hkn : k = n - 1 := by omega
        have hnk : ¬ (k : Int) < (n : Int) - 1 := by omega
        have hRk : rdRows 0 (ps.take (n - 1)) = .ok (rls qs) := by
          rw [HR.out, List.drop_of_length_le (by rw [List.length_take]; omega)]
          simp [rdRows, exB]
        have hF1 := HF.out
        rw [hRk] at hF1
        by_cases h0 : n = 0
        · have hRF : RF = (⟨[], 0⟩, 1) := by rw [hF1, if_pos h0]
          have HRF := Lib.hid hRF
          subst h0
          clear hRF hF1 hRk
          have r0 := BW.out.cell (i := 0) rfl
          have r1 := BW.out.cell (i := 1) rfl
          have rf := BW.out.free
          go_wp2
          refine bodyPost_ret (v := .tuple #[.agg #[.slice none 0 0, .int .i64 0], .int .i64 (1)]) (by simp [results, Tryd.results5, go_sem, r0, r1, *]) rfl ?_
          go_light
          rw [HRF.out]
          exact RetReadS.none_ (((G1.out.trans (HL.out.mono G1.out.size)).setCell (p := ⟨w.heap.size, 0, none⟩) (by simp) _).setCell (p := ⟨w.heap.size, 1, none⟩) (by simp) _)
        · rw [if_neg h0] at hF1
          obtain ⟨lN, hlN⟩ := some_at (l := ps) (k := k) HN.out (by omega)
          obtain ⟨lT, hlT⟩ := some_at (l := ps) (k := n) HN.out (by omega)
          have hgN : ps.getD (n - 1) [] = lN := by rw [← hkn]; exact getD_at hlN _
          have hgT : ps.getD n [] = lT := getD_at hlT _
          rw [hgN, hgT] at hF1
          simp only [else_both lN] at hF1
          have hcN := (HL.out.cell (p := ⟨b, off + k, none⟩) hb1).trans (PS1.out k lN hlN)
          have hcT := (HL.out.cell (p := ⟨b, off + n, none⟩) hb1).trans (PS1.out n lT hlT)
          have hlN9 := HPS.out lN (List.mem_of_getElem? hlN)
          have hLs := str_size lN
          have hn1 : ¬ (n : Int) < 1 := by omega
          have hcN2 : wr.cell? ⟨b, off + (n - 1), none⟩ = some (.string (str lN)) := by rw [← hkn]; exact hcN
          have hbP : b ≠ w1.heap.size := by omega
          have hLE : ((str lT).toList.isEmpty) = decide (lT = []) := by
            rw [ByteArray.toList_eq]
            cases lT <;> simp [str]
          have hLb : ((str lT).toList == []) = decide (lT = []) := by
            rw [ByteArray.toList_eq]
            cases lT <;> simp [str]
          have HV := Lib.hid (fun W => l2Verdict_c (lN.drop 5) W)
          have h5e : (str lN).extract 0 5 = str (lN.take 5) := by rw [extract_str]; simp
          have h5d : (str lN).extract 5 lN.length = str (lN.drop 5) := by rw [← hLs, drop_str]
          have h5q : (((str lN).extract 0 5).toList == [101, 108, 115, 101, 32]) = decide (lN.take 5 = [101, 108, 115, 101, 32]) := by
            rw [ByteArray.toList_eq, h5e, str_list]
            rw [Bool.eq_iff_iff, beq_iff_eq, decide_eq_true_eq]
          rw [← h5d] at HV
          clear h5e h5d hRk hgN hgT
          by_cases hc : 5 < lN.length ∧ lN.take 5 = [101, 108, 115, 101, 32]
          · obtain ⟨hc5, hct⟩ := hc
            have hsp : spElse lN = spVerdict (lN.drop 5) := by unfold spElse; rw [if_pos ⟨hc5, hct⟩]
            rw [hsp] at hF1
            have hq : (((str lN).extract 0 5).toList == [101, 108, 115, 101, 32]) = true := by rw [h5q]; simpa using hct
            clear hct h5q hsp hlN hlT
            generalize spVerdict (lN.drop 5) = vd at *
            generalize str lN = LN at *
            have HF1 := Lib.hid hF1
            clear hF1
            (go_wp2_with fail); (go_at_call 19; refine (HV.out _).mono ?_; rintro e w3 ⟨rfl, b3⟩; skip)
            have BP3 := Lib.hid (BP.out.up b3)
            have BW3 := Lib.hid (BW.out.up b3)
            have O3 := Lib.hid (HO.out.up b3)
            have L3 := Lib.hid (HL.out.trans (b3.mono hbs))
            have hs3 := b3.size
            have hcT3 := (b3.cell (p := ⟨b, off + n, none⟩) (by show b < _; omega)).trans hcT
            have q0 := BP3.out.cell (i := 0) rfl
            have q1 := BP3.out.cell (i := 1) rfl
            have qf := BP3.out.free
            have t0 := BW3.out.cell (i := 0) rfl
            have t1 := BW3.out.cell (i := 1) rfl
            have tf := BW3.out.free
            have hneq : w.heap.size ≠ w1.heap.size := by omega
            have BWS := Lib.hid (BW3.out.far (p := ⟨w1.heap.size, 1, none⟩) (by simp; omega) (.int .i64 vd))
            have LS := Lib.hid (L3.out.setCell (p := ⟨w1.heap.size, 1, none⟩) (Nat.le_refl _) (.int .i64 vd))
            clear b3
            have hF1 := HF1.out
            by_cases hv : vd = 0
            · subst hv
              have hRF : RF = (⟨[], 0⟩, (n : Int)) := by simpa using hF1
              have HRF := Lib.hid hRF
              clear hRF hF1
              have r0 := BWS.out.cell (i := 0) rfl
              have r1 := BWS.out.cell (i := 1) rfl
              have rf := BWS.out.free
              go_wp2
              refine bodyPost_ret (v := .tuple #[.agg #[.slice none 0 0, .int .i64 0], .int .i64 (n)]) (by simp [results, Tryd.results5, go_sem, r0, r1, *]) rfl ?_
              go_light
              rw [HRF.out]
              exact RetReadS.none_ (((G1.out.trans (LS.out.mono G1.out.size)).setCell (p := ⟨w.heap.size, 0, none⟩) (by simp) _).setCell (p := ⟨w.heap.size, 1, none⟩) (by simp) _)
            · have hvb : (vd == 0) = false := by simpa using hv
              have hvd : decide (vd = 0) = false := by simpa using hv
              have hvn : ¬ vd = 0 := hv
              simp only [if_neg hv] at hF1
              by_cases hT : lT = []
              · have hRF : RF = (⟨rls qs, vd⟩, 0) := by rw [hF1, if_pos hT]
                have HRF := Lib.hid hRF
                rw [decide_eq_true hT] at hLE hLb
                clear hRF hF1 hT hv
                generalize str lT = LT at *
                have r0 := BWS.out.cell (i := 0) rfl
                have r1 := BWS.out.cell (i := 1) rfl
                have rf := BWS.out.free
                go_wp2
                refine bodyPost_ret (v := .tuple #[.agg #[.slice Ao k co, .int .i64 vd], .int .i64 0]) (by simp [results, Tryd.results5, go_sem, r0, r1, *]) rfl ?_
                go_light
                have hrl : (rls qs).length = k := by rw [rls_len]; exact HO.out.len
                rw [HRF.out]
                refine ⟨Ao, co, qs, ?_, rfl, ?_, HA.out, ?_⟩
                · show _ = Ending.returned (.tuple #[.agg #[.slice Ao (rls qs).length co, .int .i64 vd], .int .i64 0])
                  rw [hrl]
                · show OP _ _ _ _ _ _ (rls qs).length _ _
                  rw [hrl]
                  exact (((O3.out.set_ (g := w1.heap.size) (o := 1) (.inl (by omega)) _).set_ (g := w.heap.size) (o := 0) (.inl (by omega)) _).set_ (g := w.heap.size) (o := 1) (.inl (by omega)) _).wide (by omega) (by simp; omega)
                · exact ((G1.out.trans (LS.out.mono G1.out.size)).setCell (p := ⟨w.heap.size, 0, none⟩) (by simp) _).setCell (p := ⟨w.heap.size, 1, none⟩) (by simp) _
              · have hRF : RF = (⟨[], 0⟩, (n : Int) + 1) := by rw [hF1, if_neg hT]
                have HRF := Lib.hid hRF
                rw [decide_eq_false hT] at hLE hLb
                clear hRF hF1 hT hv
                generalize str lT = LT at *
                have r0 := BWS.out.cell (i := 0) rfl
                have r1 := BWS.out.cell (i := 1) rfl
                have rf := BWS.out.free
                go_wp2
                refine bodyPost_ret (v := .tuple #[.agg #[.slice none 0 0, .int .i64 0], .int .i64 ((n : Int) + 1)]) (by simp [results, Tryd.results5, go_sem, r0, r1, *]) rfl ?_
                go_light
                rw [HRF.out]
                exact RetReadS.none_ (((G1.out.trans (LS.out.mono G1.out.size)).setCell (p := ⟨w.heap.size, 0, none⟩) (by simp) _).setCell (p := ⟨w.heap.size, 1, none⟩) (by simp) _)
          · have hsp : spElse lN = 0 := by unfold spElse; rw [if_neg hc]
            have hRF : RF = (⟨[], 0⟩, (n : Int)) := by
              rw [hsp] at hF1
              simpa using hF1
            have HRF := Lib.hid hRF
            by_cases hc5 : 5 < lN.length
            · have hq : (((str lN).extract 0 5).toList == [101, 108, 115, 101, 32]) = false := by
                rw [h5q]
                exact decide_eq_false (fun h => hc ⟨hc5, h⟩)
              clear hRF hF1 hsp hc h5q hlN hlT
              generalize str lN = LN at *
              have r0 := BW.out.cell (i := 0) rfl
              have r1 := BW.out.cell (i := 1) rfl
              have rf := BW.out.free
              go_wp2
              refine bodyPost_ret (v := .tuple #[.agg #[.slice none 0 0, .int .i64 0], .int .i64 (n)]) (by simp [results, Tryd.results5, go_sem, r0, r1, *]) rfl ?_
              go_light
              rw [HRF.out]
              exact RetReadS.none_ (((G1.out.trans (HL.out.mono G1.out.size)).setCell (p := ⟨w.heap.size, 0, none⟩) (by simp) _).setCell (p := ⟨w.heap.size, 1, none⟩) (by simp) _)
            · clear hRF hF1 hsp hc h5q hlN hlT
              generalize str lN = LN at *
              have r0 := BW.out.cell (i := 0) rfl
              have r1 := BW.out.cell (i := 1) rfl
              have rf := BW.out.free
              go_wp2
              refine bodyPost_ret (v := .tuple #[.agg #[.slice none 0 0, .int .i64 0], .int .i64 (n)]) (by simp [results, Tryd.results5, go_sem, r0, r1, *]) rfl ?_
              go_light
              rw [HRF.out]
              exact RetReadS.none_ (((G1.out.trans (HL.out.mono G1.out.size)).setCell (p := ⟨w.heap.size, 0, none⟩) (by simp) _).setCell (p := ⟨w.heap.size, 1, none⟩) (by simp) _)
      · obtain ⟨G, rfl⟩ : ∃ j, gk = j + 1 := ⟨gk - 1, by omega⟩
        obtain ⟨lk, hlk⟩ := some_at (l := ps) (k := k) HN.out (by omega)
        have hl9 := HPS.out lk (List.mem_of_getElem? hlk)
        have hck := (HL.out.cell (p := ⟨b, off + k, none⟩) hb1).trans (PS1.out k lk hlk)
        have hdk : (ps.take (n - 1)).drop k = lk :: (ps.take (n - 1)).drop (k + 1) := by
          have : (ps.take (n - 1))[k]? = some lk := by rw [List.getElem?_take_of_lt (by omega)]; exact hlk
          have hlt := (List.getElem?_eq_some_iff.1 this).1
          rw [List.drop_eq_getElem_cons hlt]
          congr 1
          rw [List.getElem?_eq_getElem hlt] at this
          injection this
        rw [hdk] at HR
        clear hdk hlk
        have hkN : (k : Int) < (n : Int) - 1 := by omega
        have hkn1 : k < n + 1 := by omega
        (go_wp2_with fail); (go_at_call 18; refine (l2Rule_c lk hl9 _).mono ?_; rintro e w3 ⟨r, TA, tc, bb, rfl, ho3, b3, hb3⟩; skip)
        have BP3 := Lib.hid (BP.out.up b3)
        have BW3 := Lib.hid (BW.out.up b3)
        have O3 := Lib.hid (HO.out.up b3)
        have L3 := Lib.hid (HL.out.trans (b3.mono hbs))
        have hs3 := b3.size
        have hz3 : w1.heap.size < w3.heap.size := by omega
        have hz4 : w.heap.size < w3.heap.size := by omega
        have T3 := Lib.hid (show TO w3 wr.heap.size w3.heap.size 67 (r, .slice TA r.ts.length tc) from ⟨ho3, fun g e => (ho3.lt g e).2⟩)
        clear b3 ho3
        cases bb with
        | false =>
          have hE := HR.out.trans (rdRowsB_no (.inr (by rw [hb3]; rfl)))
          have hRF : RF = (⟨[], 0⟩, (k : Int) + 1) := by
            have := HF.out
            rw [hE, if_neg (by omega)] at this
            exact this
          have HRF := Lib.hid hRF
          have BW4 := Lib.hid (BW3.out.alloc (.cells #[.int .i64 r.v, .int .i64 r.lo, .int .i64 r.hi, .slice TA r.ts.length tc] 40))
          clear hE hRF hb3
          have r0 := BW3.out.cell (i := 0) rfl
          have r1 := BW3.out.cell (i := 1) rfl
          have rf := BW3.out.free
          go_wp2
          refine bodyPost_ret (v := .tuple #[.agg #[.slice none 0 0, .int .i64 0], .int .i64 ((k : Int) + 1)]) (by simp [results, Tryd.results5, go_sem, r0, r1, *]) rfl ?_
          go_light
          rw [HRF.out]
          exact RetReadS.none_ ((((G1.out.trans (L3.out.mono G1.out.size)).setCell (p := ⟨w.heap.size, 0, none⟩) (by simp) _).setCell (p := ⟨w.heap.size, 1, none⟩) (by simp) _).alloc (by simp; omega) _)
        | true =>
          by_cases h8 : k < 8
          · have hE := HR.out.trans (rdRowsB_yes h8 (by rw [hb3]; rfl))
            have HE := Lib.hid hE
            have h8d : ¬ (8 : Int) ≤ (k : Int) := by omega
            have LA : Hid (Below w3.heap.size w3 ((w3.alloc (.cells #[.int .i64 r.v, .int .i64 r.lo, .int .i64 r.hi, .slice TA r.ts.length tc] 40)).alloc (.cells #[.int .i64 r.v, .int .i64 r.lo, .int .i64 r.hi, .slice TA r.ts.length tc] 40))) := Lib.hid (by go_grown)
            have HOW := Lib.hid (O3.out.up LA.out)
            have T3A := Lib.hid (T3.out.up LA.out)
            have HCC : Hid (Rd ((w3.alloc (.cells #[.int .i64 r.v, .int .i64 r.lo, .int .i64 r.hi, .slice TA r.ts.length tc] 40)).alloc (.cells #[.int .i64 r.v, .int .i64 r.lo, .int .i64 r.hi, .slice TA r.ts.length tc] 40)) (w3.heap.size + 1 + 1) 4 (some ⟨w3.heap.size + 1, 0, none⟩) 1 (rcells [(r, .slice TA r.ts.length tc)])) := Lib.hid (rd_new (by simp) 40 4 1 (rcells [(r, .slice TA r.ts.length tc)]) rfl)
            have q0 := BP3.out.cell (i := 0) rfl
            have qf := BP3.out.free
            have hk9 : k ≤ 1000000 := by omega
            clear hE hb3
            go_wp2_with (at_builtin; go_must (refine wpList_append_rd _ rfl _ _ 22 rfl (w1.heap.size + 1) 40 i0 _ 4 48 Tryd.underlying22 hi0 hz0 hz1 hz2 rfl (by omega) (.slice Ao k co) k (rcells qs) rfl HOW.out.own (w3.heap.size + 1 + 1) (some ⟨w3.heap.size + 1, 0, none⟩) 1 1 _ rfl HCC.out (one_rcells (fun q hq => by rw [List.mem_singleton.1 hq]; exact T3.out)) (by unfold maxLen; omega) (by omega) (by simp; omega) ?_; intro A10 c10 w10 ho10 hg10 ha10; have hs10 := hg10.size; simp at hs10; have O10 := Lib.hid (HOW.out.app (by decide) (hi' := w10.heap.size) (fun q hq => by rw [List.mem_singleton.1 hq]; exact T3A.out.wide (by omega) (by omega)) (by omega) ho10 hg10 (Nat.le_refl _)); have A10' := Lib.hid (HA.out.new HO.out (q := (r, .slice TA r.ts.length tc)) (B := wr.heap.size) (fun g e => (T3.out.lt g e).1) (Nat.le_refl _)); have P10 := Lib.hid ((BP3.out.up LA.out).gn hg10 (fun e => by have := HOB.out _ e; omega)); have y10 := P10.out.cell (i := 0) rfl; have yf10 := P10.out.free; have L10 := Lib.hid (((L3.out.trans (LA.out.mono (by omega)))).grown hg10 (by simp; omega) (fun b e => by have := HOB.out b e; omega)); clear ho10 hg10 ha10))
            go_roundg G
            case measure => omega
            case rel =>
              go_light
              refine ⟨k + 1, A10, c10, qs ++ [(r, .slice TA r.ts.length tc)], by omega, by go_num, Lib.hid ?_, P10.out.set_ 0 _, Lib.hid ((O10.out.set_ (g := w1.heap.size) (o := 0) (.inl (by omega)) _).wide (Nat.le_refl _) (by simp)), A10', Lib.hid (L10.out.setCell (p := ⟨w1.heap.size, 0, none⟩) (Nat.le_refl _) _), by simp; omega⟩
              rw [HE.out, rls_app]
              rfl
          · have hE := HR.out.trans (rdRowsB_no (.inl (by omega)))
            have h8d : (8 : Int) ≤ (k : Int) := by omega
            have hRF : RF = (⟨[], 0⟩, (k : Int) + 1) := by
              have := HF.out
              rw [hE, if_neg (by omega)] at this
              exact this
            have HRF := Lib.hid hRF
            clear hE hRF hb3
            have r0 := BW3.out.cell (i := 0) rfl
            have r1 := BW3.out.cell (i := 1) rfl
            have rf := BW3.out.free
            go_wp2
            refine bodyPost_ret (v := .tuple #[.agg #[.slice none 0 0, .int .i64 0], .int .i64 ((k : Int) + 1)]) (by simp [results, Tryd.results5, go_sem, r0, r1, *]) rfl ?_
            go_light
            rw [HRF.out]
            exact RetReadS.none_ ((((G1.out.trans (L3.out.mono G1.out.size)).setCell (p := ⟨w.heap.size, 0, none⟩) (by simp) _).setCell (p := ⟨w.heap.size, 1, none⟩) (by simp) _).alloc (by simp; omega) _)
end Go.Proofs.YtflhniobbdanjaaDoor
