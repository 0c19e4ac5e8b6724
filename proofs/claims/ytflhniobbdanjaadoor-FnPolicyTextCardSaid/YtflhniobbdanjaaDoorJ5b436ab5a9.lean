/- The reader of a line: what it goes past, reads, and throws. Conditions: each contract's own. -/
import Derived.Test.YtflhniobbdanjaaDoorJ8435d320fe
import Derived.Test.YtflhniobbdanjaaDoorJ2fb56091f2
namespace Go.Proofs.YtflhniobbdanjaaDoor
set_option linter.unusedSimpArgs false
open Go.RowKit
set_option linter.unusedVariables false
set_option linter.unnecessarySimpa false
set_option maxRecDepth 20000
theorem skipC_c (g : Nat) (l p : List UInt8) (ln : Int) (w : World) (h : Blk w g 53 [.string (str l), .int .i64 ln]) :
    Calls Tryd.prog 47 #[.pointer (some ⟨g, 0, none⟩), .string (str p)] w (fun e w' => e = .returned (.bool (Lib.hasPrefix l p)) ∧ w' = w.setCell ⟨g, 0, none⟩ (.string (str (Lib.trimPrefix l p)))) := by
  have c0 := h.cell (i := 0) rfl
  have cf := h.free
  have hC := Tryd.strings_CutPrefix (str l) (str p)
  simp only [str_list] at hC
  have e1 : (⟨(Lib.trimPrefix l p).toArray⟩ : ByteArray) = str (Lib.trimPrefix l p) := rfl
  rw [e1] at hC
  have HC := Lib.hid hC
  generalize str (Lib.trimPrefix l p) = R at *
  generalize Lib.hasPrefix l p = B at *
  clear hC h e1
  generalize str l = L at *
  generalize str p = P at *
  go_enter Tryd.func47, Tryd.ntmps47
  go_wp2_with fail
  refine (HC.out _).mono ?_
  rintro e w1 ⟨rfl, rfl⟩
  go_wp2
  go_returns
  exact ⟨rfl, rfl⟩
set_option maxHeartbeats 1600000 in
set_option maxRecDepth 100000 in
theorem numberC_c (g : Nat) (l : List UInt8) (ln : Int) (most : Int) (h9 : 9 ≤ most) (hm : most ≤ 4294967295) (hl : l.length ≤ 9223372036854775806) (w : World) (h : Blk w g 53 [.string (str l), .int .i64 ln]) :
    Calls Tryd.prog 66 #[.pointer (some ⟨g, 0, none⟩), .int .i64 most] w (fun e w' => e = .returned (.tuple #[.int .i64 (numV most l).1, .bool (numV most l).2]) ∧ Blk w' g 53 [.string (str (numL most l)), .int .i64 ln] ∧ w.grownBy w' (some g)) := by
  have c0 := h.cell (i := 0) rfl
  have cf := h.free
  have H0 := Lib.hid h
  have hsz := str_size l
  have hd := fun k => drop_str l k
  rw [hsz] at hd
  have HD := Lib.hid hd
  have HAT : Hid (∀ k (h1 : k < (str l).size) (hk : k < l.length), (str l)[k]'h1 = l[k]'hk) := Lib.hid (fun k h1 hk => by simp [str, ByteArray.getElem_eq_getElem_data])
  clear h hd
  obtain ⟨L, hL⟩ : ∃ L : ByteArray, L = str l := ⟨_, rfl⟩
  have HLs := Lib.hid hL
  rw [← hL] at c0 H0 hsz HD HAT
  clear hL
  go_enter Tryd.func66, Tryd.ntmps66
  go_wp2_with fail
  go_loopg [6, 7] l.length (fun gk v s wr => ∃ (k : Nat) (x : Int), gk + k = l.length ∧ v = .int .i64 x ∧ s = .int .i64 k ∧ 0 ≤ x ∧ x ≤ most ∧ wr = w ∧ Hid (numF most l 0 0 = numF most (l.drop k) x k))
  case atStart => exact ⟨0, 0, rfl, rfl, rfl, by omega, by omega, rfl, Lib.hid rfl⟩
  case round =>
    obtain ⟨k, x, hgk, rfl, rfl, hx0, hx1, rfl, HN⟩ := hrel
    have hkL : k < L.size ∨ ¬ k < L.size := Nat.lt_or_ge k L.size |>.imp id (fun h => by omega)
    by_cases hk : k < l.length
    · have hat := HAT.out k (by omega) hk
      have hcc : l[k]? = some (l[k]'hk) := List.getElem?_eq_getElem hk
      have HGO := fun hd => num_go HN.out hcc hd
      have HEND : Hid (digB (l[k]'hk) = false → numF most l 0 0 = some (x, k)) := Lib.hid (fun hd => num_end HN.out (fun c hc => by rw [hcc] at hc; injection hc with hc; rw [← hc]; exact hd))
      rw [← hat] at HGO HEND
      have HGO := Lib.hid HGO
      clear hat hcc hkL
      go_wp2_with fail
      · go_returns
        go_light
        have hd : digB (L[k]'(by omega)) = true := by unfold digB; simp only [decide_eq_true_eq]; omega
        have h1 := HGO.out hd
        rw [if_pos (by unfold figI; omega)] at h1
        obtain ⟨a, b, c⟩ := numV_none h1
        rw [a, b, c, ← HLs.out]
        exact ⟨rfl, H0.out, grg_refl _ _⟩
      · go_returns
        go_light
        have hd : digB (L[k]'(by omega)) = true := by unfold digB; simp only [decide_eq_true_eq]; omega
        have h1 := HGO.out hd
        rw [if_pos (by unfold figI; rename (_ ∨ _) => hor; simp only [beq_iff_eq] at hor; omega)] at h1
        obtain ⟨a, b, c⟩ := numV_none h1
        rw [a, b, c, ← HLs.out]
        exact ⟨rfl, H0.out, grg_refl _ _⟩
      · obtain ⟨gm, rfl⟩ : ∃ m, gk = m + 1 := ⟨gk - 1, by omega⟩
        go_roundg gm
        case measure => omega
        case rel =>
          go_light
          have hd : digB (L[k]'(by omega)) = true := by unfold digB; simp only [decide_eq_true_eq]; omega
          have h1 := HGO.out hd
          rw [if_neg (by unfold figI; omega)] at h1
          exact ⟨k + 1, x * 10 + figI (L[k]'(by omega)), by omega, by unfold figI; go_num, by go_num, by unfold figI; omega, by unfold figI; omega, rfl, Lib.hid h1⟩
      · go_returns
        go_light
        have hd : digB (L[k]'(by omega)) = true := by unfold digB; simp only [decide_eq_true_eq]; omega
        have h1 := HGO.out hd
        rw [if_pos (by unfold figI; omega)] at h1
        obtain ⟨a, b, c⟩ := numV_none h1
        rw [a, b, c, ← HLs.out]
        exact ⟨rfl, H0.out, grg_refl _ _⟩
      · obtain ⟨gm, rfl⟩ : ∃ m, gk = m + 1 := ⟨gk - 1, by omega⟩
        go_roundg gm
        case measure => omega
        case rel =>
          go_light
          have hd : digB (L[k]'(by omega)) = true := by unfold digB; simp only [decide_eq_true_eq]; omega
          have h1 := HGO.out hd
          rw [if_neg (by unfold figI; omega)] at h1
          exact ⟨k + 1, x * 10 + figI (L[k]'(by omega)), by omega, by unfold figI; go_num, by go_num, by unfold figI; omega, by unfold figI; omega, rfl, Lib.hid h1⟩
      · go_returns
        go_light
        have hd : digB (L[k]'(by omega)) = true := by unfold digB; simp only [decide_eq_true_eq]; omega
        have h1 := HGO.out hd
        rw [if_pos (by unfold figI; omega)] at h1
        obtain ⟨a, b, c⟩ := numV_none h1
        rw [a, b, c, ← HLs.out]
        exact ⟨rfl, H0.out, grg_refl _ _⟩
      · go_returns
        go_light
        have hd : digB (L[k]'(by omega)) = false := by unfold digB; simp only [decide_eq_false_iff_not]; omega
        obtain ⟨a, b, c⟩ := numV_some (HEND.out hd)
        rw [a, b, c]
        have hx := HD.out k
        rw [← hx]
        refine ⟨?_, ?_, ?_⟩
        · rfl
        · exact H0.out.set_ 0 _
        · exact grg_set (grg_refl _ _) 0 _
      · go_returns
        go_light
        have hd : digB (L[k]'(by omega)) = false := by unfold digB; simp only [decide_eq_false_iff_not]; omega
        obtain ⟨a, b, c⟩ := numV_some (HEND.out hd)
        rw [a, b, c]
        have hx := HD.out k
        rw [← hx]
        refine ⟨?_, ?_, ?_⟩
        · rfl
        · exact H0.out.set_ 0 _
        · exact grg_set (grg_refl _ _) 0 _
    · have hkl : k = l.length := by omega
      have h1 := num_end HN.out (fun c hc => by rw [List.getElem?_eq_none (by omega)] at hc; cases hc)
      obtain ⟨a, b, c⟩ := numV_some h1
      have HA := Lib.hid a
      have HB := Lib.hid b
      have HC := Lib.hid c
      clear hkL h1 HN hkl a b c
      go_wp2
      go_returns
      rw [HA.out, HB.out, HC.out, ← HD.out k]
      exact ⟨rfl, H0.out.set_ 0 _, grg_set (grg_refl _ _) 0 _⟩
/-- What is thrown at a line that is none. -/
def lineF (t : Nat) (ln : Int) : List PanicEntry := [{ v := .iface t (.agg #[.int .i64 ln]), recovered := false }]
theorem need_yes (g : Nat) (l : List UInt8) (ln : Int) (w : World) (h : Blk w g 53 [.string (str l), .int .i64 ln]) :
    Calls Tryd.prog 23 #[.pointer (some ⟨g, 0, none⟩), .bool true] w (fun e w' => e = .returned (.tuple #[]) ∧ w' = w) := by
  go_enter Tryd.func23, Tryd.ntmps23
  go_wp2
  go_end0
  exact ⟨rfl, rfl⟩
theorem need_no (g : Nat) (l : List UInt8) (ln : Int) (w : World) (h : Blk w g 53 [.string (str l), .int .i64 ln]) :
    Calls Tryd.prog 23 #[.pointer (some ⟨g, 0, none⟩), .bool false] w (fun e w' => e = .panicked (lineF 45 ln) ∧ w' = w) := by
  have c1 := h.cell (i := 1) rfl
  go_enter Tryd.func23, Tryd.ntmps23
  go_wp2
  exact ⟨rfl, rfl, rfl⟩
theorem done_c (g : Nat) (l : List UInt8) (ln : Int) (w : World) (h : Blk w g 53 [.string (str l), .int .i64 ln]) :
    Calls Tryd.prog 26 #[.pointer (some ⟨g, 0, none⟩)] w (fun e w' => e = .returned (.bool (decide (l = []))) ∧ w' = w) := by
  have c0 := h.cell (i := 0) rfl
  have he : (str l).toList.isEmpty = decide (l = []) := by
    rw [ByteArray.toList_eq]
    cases l <;> simp [str]
  have HE := Lib.hid he
  clear he h
  generalize str l = L at *
  go_enter Tryd.func26, Tryd.ntmps26
  go_wp2
  go_returns
  exact ⟨congrArg (fun x => Ending.returned (Value.bool x)) HE.out, rfl⟩
theorem rdWord_num (l : List UInt8) : rdWord l = if (numV 4294967295 l).2 = true then some ((numV 4294967295 l).1, numL 4294967295 l) else none := by
  unfold rdWord numV numL
  cases numF 4294967295 l 0 0 with
  | none => rfl
  | some p =>
    obtain ⟨v, k⟩ := p
    simp only [decide_eq_true_eq]
theorem word_le {l r : List UInt8} {v : Int} (h : rdWord l = some (v, r)) : r.length ≤ l.length := by
  rw [(word_iff.1 h).1]; simp
theorem wordC_yes (g : Nat) (l r : List UInt8) (v ln : Int) (hl : l.length ≤ 1000000) (w : World) (h : Blk w g 53 [.string (str l), .int .i64 ln]) (e : rdWord l = some (v, r)) :
    Calls Tryd.prog 48 #[.pointer (some ⟨g, 0, none⟩)] w (fun e w' => e = .returned (.int .i64 v) ∧ Blk w' g 53 [.string (str r), .int .i64 ln] ∧ w.grownBy w' (some g)) := by
  rw [rdWord_num] at e
  split at e
  · rename_i hb
    injection e with e
    injection e with e1 e2
    have HN := Lib.hid (numberC_c g l ln 4294967295 (by decide) (by decide) (by omega) w h)
    rw [e1, e2, hb] at HN
    clear e1 e2 hb h
    go_enter Tryd.func48, Tryd.ntmps48
    go_wp2_with fail
    refine HN.out.mono ?_
    rintro e w1 ⟨rfl, hb, hg⟩
    have B1 := Lib.hid hb
    have G1 := Lib.hid hg
    clear hb hg
    (go_wp2_with fail); (go_at_call 23; refine (need_yes g _ ln _ B1.out).mono ?_; rintro e w2 ⟨rfl, rfl⟩; skip)
    go_wp2
    go_returns
    exact ⟨rfl, B1.out, G1.out⟩
  · cases e
theorem wordC_no (g : Nat) (l : List UInt8) (ln : Int) (hl : l.length ≤ 1000000) (w : World) (h : Blk w g 53 [.string (str l), .int .i64 ln]) (e : rdWord l = none) :
    Calls Tryd.prog 48 #[.pointer (some ⟨g, 0, none⟩)] w (fun e w' => e = .panicked (lineF 45 ln) ∧ w.grownBy w' (some g)) := by
  rw [rdWord_num] at e
  split at e
  · cases e
  · rename_i hb
    have hb : (numV 4294967295 l).2 = false := by simpa using hb
    have HN := Lib.hid (numberC_c g l ln 4294967295 (by decide) (by decide) (by omega) w h)
    rw [hb] at HN
    clear hb h
    generalize (numV 4294967295 l).1 = v at *
    generalize numL 4294967295 l = r at *
    go_enter Tryd.func48, Tryd.ntmps48
    go_wp2_with fail
    refine HN.out.mono ?_
    rintro e w1 ⟨rfl, hb, hg⟩
    have B1 := Lib.hid hb
    have G1 := Lib.hid hg
    clear hb hg
    (go_wp2_with fail); (go_at_call 23; refine (need_no g _ ln _ B1.out).mono ?_; rintro e w2 ⟨rfl, rfl⟩; skip)
    exact ⟨rfl, rfl, G1.out⟩
theorem skP_yes {p l r : List UInt8} (h : skP p l = some r) : Lib.hasPrefix l p = true ∧ Lib.trimPrefix l p = r := by
  unfold skP at h
  split at h
  · rename_i hb
    injection h with h
    exact ⟨hb, h⟩
  · cases h
theorem skP_no {p l : List UInt8} (h : skP p l = none) : Lib.hasPrefix l p = false ∧ Lib.trimPrefix l p = l := by
  unfold skP at h
  split at h
  · cases h
  · rename_i hb
    have hb : Lib.hasPrefix l p = false := by simpa using hb
    exact ⟨hb, by unfold Lib.trimPrefix; rw [hb]; rfl⟩
theorem skP_le {p l r : List UInt8} (h : skP p l = some r) : r.length ≤ l.length := by
  rw [skP_iff.1 h]; simp
theorem skipC_yes (g : Nat) (l p r : List UInt8) (ln : Int) (w : World) (h : Blk w g 53 [.string (str l), .int .i64 ln]) (e : skP p l = some r) :
    Calls Tryd.prog 47 #[.pointer (some ⟨g, 0, none⟩), .string (str p)] w (fun e w' => e = .returned (.bool true) ∧ Blk w' g 53 [.string (str r), .int .i64 ln] ∧ w.grownBy w' (some g)) := by
  obtain ⟨a, b⟩ := skP_yes e
  have := skipC_c g l p ln w h
  rw [a, b] at this
  exact this.mono (fun e w' ⟨h1, h2⟩ => ⟨h1, by rw [h2]; exact h.set_ 0 _, by rw [h2]; exact grg_set (grg_refl _ _) 0 _⟩)
theorem skipC_no (g : Nat) (l p : List UInt8) (ln : Int) (w : World) (h : Blk w g 53 [.string (str l), .int .i64 ln]) (e : skP p l = none) :
    Calls Tryd.prog 47 #[.pointer (some ⟨g, 0, none⟩), .string (str p)] w (fun e w' => e = .returned (.bool false) ∧ Blk w' g 53 [.string (str l), .int .i64 ln] ∧ w.grownBy w' (some g)) := by
  obtain ⟨a, b⟩ := skP_no e
  have := skipC_c g l p ln w h
  rw [a, b] at this
  exact this.mono (fun e w' ⟨h1, h2⟩ => ⟨h1, by rw [h2]; exact h.set_ 0 _, by rw [h2]; exact grg_set (grg_refl _ _) 0 _⟩)
end Go.Proofs.YtflhniobbdanjaaDoor
