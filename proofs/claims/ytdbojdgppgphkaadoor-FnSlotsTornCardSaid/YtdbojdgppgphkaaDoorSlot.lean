/- Slots as texts: plain words, and what both sides read of a slot. Conditions: each contract's own. -/
import Derived.Test.YtdbojdgppgphkaaDoorReader
import Derived.Test.YtdbojdgppgphkaaDoorNum2
import Derived.Deep.QuietTactic
import Derived.BigQuiet
namespace Go.Proofs.YtdbojdgppgphkaaDoor
set_option linter.unusedSimpArgs false
open Go.RowKit
set_option linter.unusedVariables false
set_option linter.unnecessarySimpa false
set_option maxRecDepth 20000
/-- A slot's text and number; nothing and 0 of what is none. -/
def slotR (l : List UInt8) : List UInt8 × Int :=
  if Lib.hasPrefix l [43] && (numV 9999 (l.drop 1)).2 && decide (1 ≤ (numV 9999 (l.drop 1)).1) && Lib.hasPrefix (numL 9999 (l.drop 1)) [58] then ((numL 9999 (l.drop 1)).drop 1, (numV 9999 (l.drop 1)).1) else ([], 0)
theorem pre_one (l : List UInt8) (c : UInt8) : Lib.hasPrefix l [c] = (l.head? == some c) := by
  unfold Lib.hasPrefix
  cases l with
  | nil => rfl
  | cons d t =>
    simp only [List.isPrefixOf, Bool.and_true, List.head?_cons]
    by_cases h : d = c
    · subst h
      rw [beq_self_eq_true, beq_self_eq_true]
    · rw [beq_eq_false_iff_ne.2 (Ne.symm h), beq_eq_false_iff_ne.2 (fun e => h (Option.some.inj e))]
theorem trim_one {l : List UInt8} {c : UInt8} (h : Lib.hasPrefix l [c] = true) : Lib.trimPrefix l [c] = l.drop 1 := by
  unfold Lib.trimPrefix
  rw [if_pos h]; rfl
theorem trim_no {l : List UInt8} {c : UInt8} (h : Lib.hasPrefix l [c] = false) : Lib.trimPrefix l [c] = l := by
  unfold Lib.trimPrefix
  rw [if_neg (by rw [h]; decide)]
/-- The number of a slot that the program reads. -/
theorem numV_le {most : Int} (h9 : 9 ≤ most) (l : List UInt8) : 0 ≤ (numV most l).1 ∧ (numV most l).1 ≤ most := by
  obtain ⟨ds, rest, e, hd, hr⟩ := dig_split l
  subst e
  have h0 := valD_ge hd (v := 0) (Int.le_refl _)
  unfold numV
  rw [num_at h9 hd hr]
  by_cases hK : noNought ds = true ∧ valD 0 ds ≤ most
  · rw [if_pos hK]; simp only; exact ⟨h0, hK.2⟩
  · rw [if_neg hK]; simp only; omega
/-- Behind the sign: figures up to a colon, as the reference has it. -/
theorem slot_colon {r p t : List UInt8} (hr : r = p ++ 58 :: t) (hp : ∀ c ∈ p, c ≠ 58) :
    ((numV 9999 r).2 && decide (1 ≤ (numV 9999 r).1) && Lib.hasPrefix (numL 9999 r) [58]) = decide (1 ≤ num2V p ∧ num2V p ≤ 9999) ∧ (1 ≤ num2V p ∧ num2V p ≤ 9999 → (numV 9999 r).1 = num2V p ∧ (numL 9999 r).drop 1 = t) := by
  obtain ⟨ds, rest, e, hd, hh⟩ := dig_split p
  subst e
  cases rest with
  | nil =>
    rw [List.append_nil] at hr hp ⊢
    have hh' : headNo (58 :: t) := fun c t' e => by injection e with e1 _; subst e1; rfl
    by_cases h1 : 1 ≤ ds.length
    · obtain ⟨a, b⟩ := num_both (most := 9999) (by omega) (by omega) hd hh' h1
      rw [← hr] at a b
      by_cases hv : 0 ≤ num2V ds ∧ num2V ds ≤ 9999
      · have hs := (a (num2V ds)).2 ⟨rfl, hv.2, hv.1⟩
        obtain ⟨e1, e2, e3⟩ := numV_some hs
        have e4 : numL 9999 r = 58 :: t := by rw [e3, hr, List.drop_left]
        rw [e1, e2, e4]
        refine ⟨?_, fun _ => ⟨rfl, rfl⟩⟩
        have e5 : Lib.hasPrefix (58 :: t) [58] = true := by rw [pre_one]; simp
        rw [e5, Bool.and_true, Bool.eq_iff_iff]
        simp
        omega
      · have hn : ¬ (1 ≤ num2V ds ∧ num2V ds ≤ 9999) := by omega
        have hnone : numF 9999 r 0 0 = none := by
          rcases b with b | b
          · exact b
          · have := (a _).1 b
            omega
        obtain ⟨e1, e2, e3⟩ := numV_none hnone
        rw [e1, e2]
        exact ⟨by simp [hn], fun h => absurd h hn⟩
    · have h0 : ds = [] := List.eq_nil_of_length_eq_zero (by omega)
      subst h0
      have hn : num2V [] = -1 := by decide
      have hs : numF 9999 r 0 0 = some (0, 0) := by
        rw [hr]
        show numF 9999 (58 :: t) 0 0 = _
        rw [numF]; rfl
      obtain ⟨e1, e2, e3⟩ := numV_some hs
      rw [e2, hn]
      exact ⟨by simp, fun h => absurd h.1 (by decide)⟩
  | cons c rest =>
    have hc : digB c = false := hh c rest rfl
    have hc2 : c ≠ 58 := hp c (by simp)
    have hn : num2V (ds ++ c :: rest) = -1 := num2_no (.inr (.inr (.inl (by rw [List.all_append, List.all_cons, hc]; simp))))
    have hh' : headNo (c :: (rest ++ 58 :: t)) := fun d t' e => by injection e with e1 _; subst e1; exact hc
    have hr' : r = ds ++ c :: (rest ++ 58 :: t) := by rw [hr]; simp
    rw [hn]
    refine ⟨?_, fun h => absurd h.1 (by decide)⟩
    have key : Lib.hasPrefix (numL 9999 r) [58] = false ∨ (numV 9999 r).2 = false := by
      have := num_at (most := 9999) (by omega) hd hh'
      rw [← hr'] at this
      by_cases hK : noNought ds = true ∧ valD 0 ds ≤ 9999
      · rw [if_pos hK] at this
        obtain ⟨e1, e2, e3⟩ := numV_some this
        left
        rw [e3, hr', List.drop_left, pre_one]
        simpa using hc2
      · rw [if_neg hK] at this
        exact .inr (numV_none this).2.1
    rcases key with h | h
    · rw [h]; simp
    · rw [h]; simp
/-- Without a colon behind the sign it is none. -/
theorem slot_none {r : List UInt8} (hp : ∀ c ∈ r, c ≠ 58) : ((numV 9999 r).2 && decide (1 ≤ (numV 9999 r).1) && Lib.hasPrefix (numL 9999 r) [58]) = false := by
  have key : Lib.hasPrefix (numL 9999 r) [58] = false := by
    rw [pre_one]
    have hm : ∀ c ∈ numL 9999 r, c ≠ 58 := fun c hc => by
      unfold numL at hc
      split at hc
      · exact hp c (List.mem_of_mem_drop hc)
      · exact hp c hc
    cases h : numL 9999 r with
    | nil => rfl
    | cons c t =>
      have := hm c (by rw [h]; simp)
      simpa using this
  rw [key, Bool.and_false]
set_option maxHeartbeats 800000 in
theorem slotOf_c (l : List UInt8) (hl : l.length ≤ 9223372036854775806) (w : World) : Calls Tryd.prog 122 #[.string (str l)] w (RetB (.tuple #[.string (str (slotR l).1), .int .i64 (slotR l).2]) w) := by
  have hN := numV_le (most := 9999) (by omega) (l.drop 1)
  have X0 := Lib.hid (Blk.new w 88 [.string (str l)])
  have HS := Lib.hid (fun W h => skip_c w.heap.size l [43] W h)
  have e43 : (str [43]) = ⟨#[43]⟩ := rfl
  have e58 : (str [58]) = ⟨#[58]⟩ := rfl
  have e0 : (str []) = ⟨#[]⟩ := rfl
  by_cases h1 : Lib.hasPrefix l [43] = true
  · rw [h1, trim_one h1, e43] at HS
    have HNm := Lib.hid (fun W h => number_c w.heap.size (l.drop 1) 9999 (by omega) (by omega) (by rw [List.length_drop]; omega) W h)
    have HT := Lib.hid (fun W h => skip_c w.heap.size (numL 9999 (l.drop 1)) [58] W h)
    have HE : Hid (slotR l = if (numV 9999 (l.drop 1)).2 && decide (1 ≤ (numV 9999 (l.drop 1)).1) && Lib.hasPrefix (numL 9999 (l.drop 1)) [58] then ((numL 9999 (l.drop 1)).drop 1, (numV 9999 (l.drop 1)).1) else ([], 0)) := Lib.hid (by unfold slotR; rw [h1, Bool.true_and])
    rw [e58] at HT
    clear h1
    generalize l.drop 1 = r at *
    have HTr : Hid (Lib.hasPrefix (numL 9999 r) [58] = true → Lib.trimPrefix (numL 9999 r) [58] = (numL 9999 r).drop 1) := Lib.hid trim_one
    generalize numL 9999 r = q at *
    generalize hv : numV 9999 r = v at *
    obtain ⟨x, b⟩ := v
    simp only at hN HNm HE
    clear hv
    obtain ⟨hN0, hN1⟩ := hN
    generalize str l = L at *
    have X1 := Lib.hid (Blk.new w 88 [.string (str r)])
    have B1 := Lib.hid (show Below w.heap.size w (w.alloc (.cells #[.string (str r)] 88)) by go_grown)
    have HNo : Hid ((b = false ∨ x < 1 ∨ Lib.hasPrefix q [58] = false) → slotR l = ([], 0)) := Lib.hid (fun h => by
      rw [HE.out, if_neg]
      simp only [Bool.and_eq_true, decide_eq_true_eq]
      rintro ⟨⟨a1, a2⟩, a3⟩
      rcases h with h | h | h
      · rw [h] at a1; cases a1
      · omega
      · rw [h] at a3; cases a3)
    have HYes : Hid (b = true → 1 ≤ x → Lib.hasPrefix q [58] = true → slotR l = (q.drop 1, x)) := Lib.hid (fun a1 a2 a3 => by
      rw [HE.out, if_pos]
      simp [a1, a2, a3])
    clear HE e43 e58
    by_cases hyes : b = true ∧ 1 ≤ x ∧ Lib.hasPrefix q [58] = true
    · obtain ⟨rfl, hx, hp⟩ := hyes
      rw [HYes.out rfl hx hp]
      rw [hp, HTr.out hp] at HT
      simp only
      generalize q.drop 1 = t at *
      clear HYes HNo hp HTr e0
      go_enter Tryd.func122, Tryd.ntmps122
      go_wp2_with fail
      refine (HS.out _ X0.out).mono ?_
      rintro e w1 ⟨rfl, rfl⟩
      go_wp2_with fail
      refine (HNm.out _ X1.out).mono ?_
      rintro e w2 ⟨rfl, k2, g2⟩
      have K2 := Lib.hid k2
      have X3 := Lib.hid (k2.set_ 0 (.string (str t)))
      have x3 := X3.out.cell (i := 0) rfl
      have B2 := Lib.hid (B1.out.grown g2 (by simp) (by simp))
      clear k2 g2
      go_wp2_with fail
      refine (HT.out _ K2.out).mono ?_
      rintro e w3 ⟨rfl, rfl⟩
      go_wp2
      go_returns
      exact ⟨rfl, B2.out.setCell (by simp) _⟩
    · have HE2 := HNo.out (by
        by_cases h1 : b = true
        · by_cases h2 : 1 ≤ x
          · exact .inr (.inr (by simpa [h1, h2] using hyes))
          · exact .inr (.inl (by omega))
        · exact .inl (by simpa using h1))
      rw [HE2]
      simp only
      rw [e0]
      clear HYes HNo HE2 HTr e0
      cases b with
      | false =>
        clear hyes
        go_enter Tryd.func122, Tryd.ntmps122
        go_wp2_with fail
        refine (HS.out _ X0.out).mono ?_
        rintro e w1 ⟨rfl, rfl⟩
        go_wp2_with fail
        refine (HNm.out _ X1.out).mono ?_
        rintro e w2 ⟨rfl, k2, g2⟩
        have B2 := Lib.hid (B1.out.grown g2 (by simp) (by simp))
        clear k2 g2
        go_wp2
        go_returns
        exact ⟨rfl, B2.out⟩
      | true =>
        by_cases hx : x < 1
        · have hx' : decide (x < 1) = true := by simpa using hx
          clear hyes
          go_enter Tryd.func122, Tryd.ntmps122
          go_wp2_with fail
          refine (HS.out _ X0.out).mono ?_
          rintro e w1 ⟨rfl, rfl⟩
          go_wp2_with fail
          refine (HNm.out _ X1.out).mono ?_
          rintro e w2 ⟨rfl, k2, g2⟩
          have B2 := Lib.hid (B1.out.grown g2 (by simp) (by simp))
          clear k2 g2
          go_wp2
          go_returns
          exact ⟨rfl, B2.out⟩
        · have hp : Lib.hasPrefix q [58] = false := by
            have h2 : 1 ≤ x := by omega
            simpa [h2] using hyes
          rw [hp] at HT
          have hx1 : 1 ≤ x := by omega
          clear hyes hp hx
          go_enter Tryd.func122, Tryd.ntmps122
          go_wp2_with fail
          refine (HS.out _ X0.out).mono ?_
          rintro e w1 ⟨rfl, rfl⟩
          go_wp2_with fail
          refine (HNm.out _ X1.out).mono ?_
          rintro e w2 ⟨rfl, k2, g2⟩
          have K2 := Lib.hid k2
          have B2 := Lib.hid (B1.out.grown g2 (by simp) (by simp))
          clear k2 g2
          go_wp2_with fail
          refine (HT.out _ K2.out).mono ?_
          rintro e w3 ⟨rfl, rfl⟩
          go_wp2
          go_returns
          exact ⟨rfl, B2.out.setCell (by simp) _⟩
  · have hf : Lib.hasPrefix l [43] = false := by simpa using h1
    have HE : Hid (slotR l = ([], 0)) := Lib.hid (by unfold slotR; rw [hf]; rfl)
    rw [HE.out]
    rw [hf, e43] at HS
    simp only
    rw [e0]
    clear h1 hf hN HE e43 e58 e0
    generalize str l = L at *
    go_enter Tryd.func122, Tryd.ntmps122
    go_wp2_with fail
    refine (HS.out _ X0.out).mono ?_
    rintro e w1 ⟨rfl, rfl⟩
    go_wp2
    go_returns
    exact ⟨rfl, by go_grown⟩
end Go.Proofs.YtdbojdgppgphkaaDoor
