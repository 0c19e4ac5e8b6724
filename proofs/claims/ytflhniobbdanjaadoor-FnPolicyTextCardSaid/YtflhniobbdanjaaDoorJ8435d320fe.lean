/- A reader of a text: what it goes past, and the number that it reads. Conditions: each contract's own. -/
import Derived.Test.YtflhniobbdanjaaDoorJ1dade191cb
import Derived.Test.YtflhniobbdanjaaDoorShelf
import Derived.Deep.LoopGhost
namespace Go.Proofs.YtflhniobbdanjaaDoor
set_option linter.unusedSimpArgs false
open Go.RowKit
set_option linter.unusedVariables false
set_option linter.unnecessarySimpa false
set_option maxRecDepth 20000
theorem str_list (l : List UInt8) : (str l).data.toList = l := by simp [str]
theorem str_of (s : ByteArray) : str s.data.toList = s := by
  apply ByteArray.ext
  simp [str]
theorem grg_set {w w' : World} {g : Nat} (h : w.grownBy w' (some g)) (o : Nat) (u : Value) : w.grownBy (w'.setCell ⟨g, o, none⟩ u) (some g) :=
  ⟨h.os, h.tape, h.output, by simpa using h.size, fun i hi hne => (heap_setCell_other w' ⟨g, o, none⟩ i u (fun e => hne (by rw [e]))).trans (h.block i hi hne)⟩
theorem skip_c (g : Nat) (l p : List UInt8) (w : World) (h : Blk w g 51 [.string (str l)]) :
    Calls Tryd.prog 47 #[.pointer (some ⟨g, 0, none⟩), .string (str p)] w (fun e w' => e = .returned (.bool (Lib.hasPrefix l p)) ∧ w' = w.setCell ⟨g, 0, none⟩ (.string (str (Lib.trimPrefix l p)))) := by
  have c0 := h.cell (i := 0) rfl
  have cf := h.free
  have hC := Tryd.strings_CutPrefix (str l) (str p)
  simp only [str_list] at hC
  have e1 : (⟨(Lib.trimPrefix l p).toArray⟩ : ByteArray) = str (Lib.trimPrefix l p) := rfl
  rw [e1] at hC
  have HC := Lib.hid hC
  generalize str (Lib.trimPrefix l p) = R at *
  generalize Lib.hasPrefix l p = B at *
  clear hC h e1
  generalize str l = L at *
  generalize str p = P at *
  go_enter Tryd.func47, Tryd.ntmps47
  go_wp2_with fail
  refine (HC.out _).mono ?_
  rintro e w1 ⟨rfl, rfl⟩
  go_wp2
  go_returns
  exact ⟨rfl, rfl⟩
/-- What the reader holds behind a number, and what it gives. -/
def numL (most : Int) (l : List UInt8) : List UInt8 := match numF most l 0 0 with | some (_, k) => l.drop k | none => l
def numV (most : Int) (l : List UInt8) : Int × Bool := match numF most l 0 0 with | some (v, k) => (v, decide (0 < k)) | none => (0, false)
theorem drop_str (l : List UInt8) (k : Nat) : (str l).extract k (str l).size = str (l.drop k) := by
  apply ByteArray.ext
  have e : (str l).size = l.length := str_size l
  rw [e]
  show (ByteArray.extract (str l) k l.length).data = (str (l.drop k)).data
  rw [ByteArray.data_extract]
  unfold str
  simp
  exact List.take_of_length_le (by simp)
theorem num_end {most : Int} {l : List UInt8} {k : Nat} {x : Int} (h : numF most l 0 0 = numF most (l.drop k) x k) (he : ∀ c, l[k]? = some c → digB c = false) : numF most l 0 0 = some (x, k) := by
  rw [h]
  cases hq : l.drop k with
  | nil => rfl
  | cons c t =>
    have hc : l[k]? = some c := by
      have := congrArg (fun q => q[0]?) hq
      simpa using this
    rw [numF, he c hc]; rfl
theorem num_go {most : Int} {l : List UInt8} {k : Nat} {x : Int} {c : UInt8} (h : numF most l 0 0 = numF most (l.drop k) x k) (hc : l[k]? = some c) (hd : digB c = true) :
    numF most l 0 0 = if (0 < k ∧ x = 0) ∨ (most - figI c) / 10 < x ∨ most < figI c then none else numF most (l.drop (k + 1)) (x * 10 + figI c) (k + 1) := by
  obtain ⟨hk, e⟩ := List.getElem?_eq_some_iff.1 hc
  rw [h, List.drop_eq_getElem_cons hk, e, numF, if_pos hd]
theorem numV_none {most : Int} {l : List UInt8} (h : numF most l 0 0 = none) : (numV most l).1 = 0 ∧ (numV most l).2 = false ∧ numL most l = l := by
  unfold numV numL; rw [h]; exact ⟨rfl, rfl, rfl⟩
theorem numV_some {most : Int} {l : List UInt8} {x : Int} {k : Nat} (h : numF most l 0 0 = some (x, k)) : (numV most l).1 = x ∧ (numV most l).2 = decide (0 < k) ∧ numL most l = l.drop k := by
  unfold numV numL; rw [h]; exact ⟨rfl, rfl, rfl⟩
theorem grg_refl (w : World) (g : Nat) : w.grownBy w (some g) := World.grownBy.refl w _
set_option maxHeartbeats 1600000 in
set_option maxRecDepth 100000 in
theorem number_c (g : Nat) (l : List UInt8) (most : Int) (h9 : 9 ≤ most) (hm : most ≤ 4294967295) (hl : l.length ≤ 9223372036854775806) (w : World) (h : Blk w g 51 [.string (str l)]) :
    Calls Tryd.prog 66 #[.pointer (some ⟨g, 0, none⟩), .int .i64 most] w (fun e w' => e = .returned (.tuple #[.int .i64 (numV most l).1, .bool (numV most l).2]) ∧ Blk w' g 51 [.string (str (numL most l))] ∧ w.grownBy w' (some g)) := by
  have c0 := h.cell (i := 0) rfl
  have cf := h.free
  have H0 := Lib.hid h
  have hsz := str_size l
  have hd := fun k => drop_str l k
  rw [hsz] at hd
  have HD := Lib.hid hd
  have HAT : Hid (∀ k (h1 : k < (str l).size) (hk : k < l.length), (str l)[k]'h1 = l[k]'hk) := Lib.hid (fun k h1 hk => by simp [str, ByteArray.getElem_eq_getElem_data])
  clear h hd
  obtain ⟨L, hL⟩ : ∃ L : ByteArray, L = str l := ⟨_, rfl⟩
  have HLs := Lib.hid hL
  rw [← hL] at c0 H0 hsz HD HAT
  clear hL
  go_enter Tryd.func66, Tryd.ntmps66
  go_wp2_with fail
  go_loopg [6, 7] l.length (fun gk v s wr => ∃ (k : Nat) (x : Int), gk + k = l.length ∧ v = .int .i64 x ∧ s = .int .i64 k ∧ 0 ≤ x ∧ x ≤ most ∧ wr = w ∧ Hid (numF most l 0 0 = numF most (l.drop k) x k))
  case atStart => exact ⟨0, 0, rfl, rfl, rfl, by omega, by omega, rfl, Lib.hid rfl⟩
  case round =>
    obtain ⟨k, x, hgk, rfl, rfl, hx0, hx1, rfl, HN⟩ := hrel
    have hkL : k < L.size ∨ ¬ k < L.size := Nat.lt_or_ge k L.size |>.imp id (fun h => by omega)
    by_cases hk : k < l.length
    · have hat := HAT.out k (by omega) hk
      have hcc : l[k]? = some (l[k]'hk) := List.getElem?_eq_getElem hk
      have HGO := fun hd => num_go HN.out hcc hd
      have HEND : Hid (digB (l[k]'hk) = false → numF most l 0 0 = some (x, k)) := Lib.hid (fun hd => num_end HN.out (fun c hc => by rw [hcc] at hc; injection hc with hc; rw [← hc]; exact hd))
      rw [← hat] at HGO HEND
      have HGO := Lib.hid HGO
      clear hat hcc hkL
      go_wp2_with fail
      · go_returns
        go_light
        have hd : digB (L[k]'(by omega)) = true := by unfold digB; simp only [decide_eq_true_eq]; omega
        have h1 := HGO.out hd
        rw [if_pos (by unfold figI; omega)] at h1
        obtain ⟨a, b, c⟩ := numV_none h1
        rw [a, b, c, ← HLs.out]
        exact ⟨rfl, H0.out, grg_refl _ _⟩
      · go_returns
        go_light
        have hd : digB (L[k]'(by omega)) = true := by unfold digB; simp only [decide_eq_true_eq]; omega
        have h1 := HGO.out hd
        rw [if_pos (by unfold figI; rename (_ ∨ _) => hor; simp only [beq_iff_eq] at hor; omega)] at h1
        obtain ⟨a, b, c⟩ := numV_none h1
        rw [a, b, c, ← HLs.out]
        exact ⟨rfl, H0.out, grg_refl _ _⟩
      · obtain ⟨gm, rfl⟩ : ∃ m, gk = m + 1 := ⟨gk - 1, by omega⟩
        go_roundg gm
        case measure => omega
        case rel =>
          go_light
          have hd : digB (L[k]'(by omega)) = true := by unfold digB; simp only [decide_eq_true_eq]; omega
          have h1 := HGO.out hd
          rw [if_neg (by unfold figI; omega)] at h1
          exact ⟨k + 1, x * 10 + figI (L[k]'(by omega)), by omega, by unfold figI; go_num, by go_num, by unfold figI; omega, by unfold figI; omega, rfl, Lib.hid h1⟩
      · go_returns
        go_light
        have hd : digB (L[k]'(by omega)) = true := by unfold digB; simp only [decide_eq_true_eq]; omega
        have h1 := HGO.out hd
        rw [if_pos (by unfold figI; omega)] at h1
        obtain ⟨a, b, c⟩ := numV_none h1
        rw [a, b, c, ← HLs.out]
        exact ⟨rfl, H0.out, grg_refl _ _⟩
      · obtain ⟨gm, rfl⟩ : ∃ m, gk = m + 1 := ⟨gk - 1, by omega⟩
        go_roundg gm
        case measure => omega
        case rel =>
          go_light
          have hd : digB (L[k]'(by omega)) = true := by unfold digB; simp only [decide_eq_true_eq]; omega
          have h1 := HGO.out hd
          rw [if_neg (by unfold figI; omega)] at h1
          exact ⟨k + 1, x * 10 + figI (L[k]'(by omega)), by omega, by unfold figI; go_num, by go_num, by unfold figI; omega, by unfold figI; omega, rfl, Lib.hid h1⟩
      · go_returns
        go_light
        have hd : digB (L[k]'(by omega)) = true := by unfold digB; simp only [decide_eq_true_eq]; omega
        have h1 := HGO.out hd
        rw [if_pos (by unfold figI; omega)] at h1
        obtain ⟨a, b, c⟩ := numV_none h1
        rw [a, b, c, ← HLs.out]
        exact ⟨rfl, H0.out, grg_refl _ _⟩
      · go_returns
        go_light
        have hd : digB (L[k]'(by omega)) = false := by unfold digB; simp only [decide_eq_false_iff_not]; omega
        obtain ⟨a, b, c⟩ := numV_some (HEND.out hd)
        rw [a, b, c]
        have hx := HD.out k
        rw [← hx]
        refine ⟨?_, ?_, ?_⟩
        · rfl
        · exact H0.out.set_ 0 _
        · exact grg_set (grg_refl _ _) 0 _
      · go_returns
        go_light
        have hd : digB (L[k]'(by omega)) = false := by unfold digB; simp only [decide_eq_false_iff_not]; omega
        obtain ⟨a, b, c⟩ := numV_some (HEND.out hd)
        rw [a, b, c]
        have hx := HD.out k
        rw [← hx]
        refine ⟨?_, ?_, ?_⟩
        · rfl
        · exact H0.out.set_ 0 _
        · exact grg_set (grg_refl _ _) 0 _
    · have hkl : k = l.length := by omega
      have h1 := num_end HN.out (fun c hc => by rw [List.getElem?_eq_none (by omega)] at hc; cases hc)
      obtain ⟨a, b, c⟩ := numV_some h1
      have HA := Lib.hid a
      have HB := Lib.hid b
      have HC := Lib.hid c
      clear hkL h1 HN hkl a b c
      go_wp2
      go_returns
      rw [HA.out, HB.out, HC.out, ← HD.out k]
      exact ⟨rfl, H0.out.set_ 0 _, grg_set (grg_refl _ _) 0 _⟩
end Go.Proofs.YtflhniobbdanjaaDoor
