/- The reference's reading: a verdict, a test. Conditions: each contract's own. -/
import Derived.Test.YtflhniobbdanjaaDoorJ90ac331a61
import Derived.Test.YtflhniobbdanjaaDoorJ1dade191cb
import Derived.Test.YtflhniobbdanjaaDoorJ8435d320fe
import Derived.Test.YtflhniobbdanjaaDoorJ8a22b2749d
import Derived.Test.YtflhniobbdanjaaDoorJ062e46fd56
namespace Go.Proofs.YtflhniobbdanjaaDoor
set_option linter.unusedSimpArgs false
open Go.RowKit
set_option linter.unusedVariables false
set_option linter.unnecessarySimpa false
set_option maxRecDepth 20000
theorem blk_pair (w : World) (t s : Nat) (us vs : List Value) : Blk ((w.alloc (.cells us.toArray t)).alloc (.cells vs.toArray s)) w.heap.size t us ∧ Blk ((w.alloc (.cells us.toArray t)).alloc (.cells vs.toArray s)) (w.heap.size + 1) s vs := by
  refine ⟨(Blk.new w t us).alloc _, ?_⟩
  have := Blk.new (w.alloc (.cells us.toArray t)) s vs
  rwa [World.size_alloc] at this
theorem cuts_shortT {c : UInt8} {l p : List UInt8} (h : p ∈ cuts c l) : p.length ≤ l.length := by
  induction l generalizing p with
  | nil => simp [cuts] at h; subst h; simp
  | cons x t ih =>
    rw [cuts] at h
    split at h
    · rcases List.mem_cons.1 h with rfl | h
      · simp
      · have := ih h; simp; omega
    · split at h
      · rename_i a r e
        rcases List.mem_cons.1 h with rfl | h
        · have := ih (p := a) (by rw [e]; exact List.mem_cons_self); simp; omega
        · have := ih (p := p) (by rw [e]; exact List.mem_cons_of_mem _ h); simp; omega
      · rename_i e
        exact absurd e (cuts_ne c t)
theorem below_drewT {B : Nat} {w w' : World} (h : Below B w w') : Below B w w'.drew := ⟨h.os, h.tape, h.output, h.size, h.block⟩
theorem str_same {a b : List UInt8} : str a = str b ↔ a = b := ⟨fun h => by rw [← str_list a, h, str_list], fun h => by rw [h]⟩
theorem str_eqb (a b : List UInt8) : ((str a).toList == (str b).toList) = decide (a = b) := by
  rw [ByteArray.toList_eq, ByteArray.toList_eq, str_list, str_list]
  rw [Bool.eq_iff_iff, beq_iff_eq, decide_eq_true_eq]
theorem cutL_str (l : List UInt8) (c : UInt8) : cutL (str l) c = (cuts c l).map str := by
  have h := cutL_cuts (str l) c
  rw [str_list] at h
  rw [← h, List.map_map]
  conv => lhs; rw [← List.map_id (cutL (str l) c)]
  exact List.map_congr_left (fun s _ => (str_of s).symm)
theorem rd_strs {w : World} {B n : Nat} {A : Option Addr} {ps : List (List UInt8)} (h : Rd w B 1 A n (strsC (ps.map str))) (hn : 0 < n) : ∃ b off, A = some ⟨b, off, none⟩ ∧ b < B ∧ ∀ j p, ps[j]? = some p → w.cell? ⟨b, off + j, none⟩ = some (.string (str p)) := by
  obtain ⟨b, off, e, hb, hc⟩ := h.2 hn
  exact ⟨b, off, e, hb, fun j p hj => hc j _ (by simp [strsC, hj])⟩
/-- The verdicts told apart. -/
theorem spV_hit {l : List UInt8} {k : Nat} (hk : k < 4) (hb : ∀ j, j < k → wordT ((j : Int) + 1) ≠ l) (h : wordT ((k : Int) + 1) = l) : spVerdict l = (k : Int) + 1 := by
  have h0 : 0 < k → wordT 1 ≠ l := hb 0
  have h1 : 1 < k → wordT 2 ≠ l := hb 1
  have h2 : 2 < k → wordT 3 ≠ l := hb 2
  unfold spVerdict
  rcases (show k = 0 ∨ k = 1 ∨ k = 2 ∨ k = 3 by omega) with rfl | rfl | rfl | rfl
  · have h : wordT 1 = l := h
    rw [if_pos h]; rfl
  · have h : wordT 2 = l := h
    rw [if_neg (h0 (by omega)), if_pos h]; rfl
  · have h : wordT 3 = l := h
    rw [if_neg (h0 (by omega)), if_neg (h1 (by omega)), if_pos h]; rfl
  · have h : wordT 4 = l := h
    rw [if_neg (h0 (by omega)), if_neg (h1 (by omega)), if_neg (h2 (by omega)), if_pos h]; rfl
theorem spV_miss {l : List UInt8} (hb : ∀ j : Nat, j < 4 → wordT ((j : Int) + 1) ≠ l) : spVerdict l = 0 := by
  have h0 : wordT 1 ≠ l := hb 0 (by omega)
  have h1 : wordT 2 ≠ l := hb 1 (by omega)
  have h2 : wordT 3 ≠ l := hb 2 (by omega)
  have h3 : wordT 4 ≠ l := hb 3 (by omega)
  unfold spVerdict
  rw [if_neg h0, if_neg h1, if_neg h2, if_neg h3]
theorem cut_c (l : List UInt8) (hl : l.length ≤ 1000000) (c : UInt8) (w : World) : Calls Tryd.prog 17 #[.string (str l), .int .u8 c.toNat] w (RetOwn 9 1 (cuts c l).length (strsC ((cuts c l).map str)) w) := by
  have h := l2Cut_c (str l) c (by rw [str_size]; omega) w
  rw [cutL_str, List.length_map] at h
  exact h
set_option maxHeartbeats 800000 in
theorem l2Verdict_c (l : List UInt8) (w : World) : Calls Tryd.prog 19 #[.string (str l)] w (RetB (.int .i64 (spVerdict l)) w) := by
  have HEQ := Lib.hid (fun v => str_eqb (wordT v) l)
  have HV := Lib.hid (fun k => @spV_hit l k)
  have HM := Lib.hid (@spV_miss l)
  have HX : Hid (∀ v (b : Bool), decide (wordT v = l) = b → ((str (wordT v)).toList == (str l).toList) = b) := Lib.hid (fun v b h => by rw [HEQ.out, h])
  generalize spVerdict l = V at *
  have HL : Hid (∀ v, wordT v = l ∨ wordT v ≠ l) := Lib.hid (fun v => Decidable.em _)
  clear HEQ
  go_enter Tryd.func19, Tryd.ntmps19
  go_wp2_with fail
  go_loopg [3] 4 (fun gk v wr => ∃ (k : Nat), gk + k = 4 ∧ v = .int .i64 ((k : Int) + 1) ∧ Hid (∀ j : Nat, j < k → wordT ((j : Int) + 1) ≠ l) ∧ Hid (Below w.heap.size w wr))
  case atStart => exact ⟨0, rfl, rfl, Lib.hid (fun j h => by omega), Lib.hid (Below.refl _ _)⟩
  case round =>
    obtain ⟨k, hgk, rfl, HB, HG⟩ := hrel
    by_cases hk : gk = 0
    · subst hk
      obtain rfl : k = 4 := by omega
      have hz := HM.out HB.out
      have HZ := Lib.hid hz
      clear hz
      go_wp2
      go_returns
      exact ⟨congrArg (fun x => Ending.returned (Value.int .i64 x)) HZ.out.symm, HG.out⟩
    · obtain ⟨G, rfl⟩ : ∃ j, gk = j + 1 := ⟨gk - 1, by omega⟩
      have hk3 : (k : Int) + 1 ≤ 4 := by omega
      have hvb : ruleB.verB' ((k : Int) + 1) = true := by unfold ruleB.verB'; simp only [decide_eq_true_eq]; omega
      have HW := Lib.hid (word_c ((k : Int) + 1) hvb)
      clear hvb
      rcases HL.out ((k : Int) + 1) with he | he
      · have hx := HX.out ((k : Int) + 1) true (by simpa using he)
        have HR := Lib.hid (HV.out k (by omega) HB.out he)
        clear he
        obtain ⟨S, hS⟩ : ∃ S, S = str (wordT ((k : Int) + 1)) := ⟨_, rfl⟩
        rw [← hS] at hx HW
        clear hS
        generalize str l = L at *
        (go_wp2_with fail); (go_at_call 43; refine (HW.out _).mono ?_; rintro e w1 ⟨rfl, b1⟩; have HG1 := Lib.hid (below_on HG.out (by go_grown) b1); clear b1)
        go_wp2
        go_returns
        exact ⟨congrArg (fun x => Ending.returned (Value.int .i64 x)) HR.out.symm, HG1.out⟩
      · have hx := HX.out ((k : Int) + 1) false (by simpa using he)
        have HE : Hid (∀ j : Nat, j < k + 1 → wordT ((j : Int) + 1) ≠ l) := Lib.hid (fun j hj => by
          by_cases hjk : j = k
          · subst hjk; exact he
          · exact HB.out j (by omega))
        clear he
        obtain ⟨S, hS⟩ : ∃ S, S = str (wordT ((k : Int) + 1)) := ⟨_, rfl⟩
        rw [← hS] at hx HW
        clear hS
        obtain ⟨L, hL⟩ : ∃ L, L = str l := ⟨_, rfl⟩
        simp only [← hL] at *
        clear hL
        (go_wp2_with fail); (go_at_call 43; refine (HW.out _).mono ?_; rintro e w1 ⟨rfl, b1⟩; have HG1 := Lib.hid (below_on HG.out (by go_grown) b1); clear b1)
        go_wp2
        go_roundg G
        case measure => omega
        case rel =>
          go_light
          exact ⟨k + 1, by omega, by go_num, HE, HG1⟩
theorem spAt_stay {s : List UInt8} {k : Nat} (h : (spAt s k).2 ≠ 0) : ∀ j, k ≤ j → spAt s j = spAt s k := by
  intro j hj
  induction j with
  | zero =>
    have : k = 0 := by omega
    rw [this]
  | succ j ih =>
    by_cases hk : k = j + 1
    · rw [hk]
    · have e := ih (by omega)
      rw [spAt, e, if_pos h]
theorem spAt_next {s : List UInt8} {k : Nat} {c : UInt8} {op : Int} (h : spAt s k = (op, 0)) (hc : s[k]? = some c) : spAt s (k + 1) = (if 1 ≤ sigV c ∧ sigV c ≤ 3 then sigV c else op, if 1 ≤ sigV c ∧ sigV c ≤ 3 then k else 0) := by
  have h3 : sigV c = 0 ∨ (1 ≤ sigV c ∧ sigV c ≤ 3) := by
    unfold sigV
    split
    · right; decide
    · split
      · right; decide
      · split
        · right; decide
        · left; rfl
  rw [spAt, h, hc]
  simp only [ne_eq, not_true_eq_false, if_false]
  rcases h3 with h3 | h3
  · rw [if_pos h3, if_neg (by omega), if_neg (by omega)]
  · rw [if_neg (by omega), if_pos h3, if_pos h3]
theorem spAt_lt (s : List UInt8) : ∀ k, (spAt s k).2 ≠ 0 → (spAt s k).2 < k ∧ (spAt s k).2 < s.length := by
  intro k
  induction k with
  | zero => intro h; exact absurd rfl h
  | succ k ih =>
    intro h
    rw [spAt] at h ⊢
    split
    · rename_i h2
      have := ih h2
      omega
    · rename_i h2
      rw [if_neg h2] at h
      split
      · rename_i e; rw [e] at h; exact absurd h h2
      · rename_i c e
        rw [e] at h
        simp only at h
        split
        · rename_i e2; rw [if_pos e2] at h; exact absurd h h2
        · rename_i e2
          have := (List.getElem?_eq_some_iff.1 e).1
          simp only; omega
theorem extract_str (l : List UInt8) (a b : Nat) : (str l).extract a b = str ((l.take b).drop a) := by
  rw [← str_of ((str l).extract a b), extract_list, str_list]
theorem sig_eqb {l : List UInt8} {k : Nat} {c : UInt8} (h : l[k]? = some c) (m : UInt8) : ((str l).extract k (k + 1)).toList = [c] := by
  rw [ByteArray.toList_eq, extract_list, str_list, List.take_add_one, h]
  have hk := (List.getElem?_eq_some_iff.1 h).1
  have : (l.take k).length = k := by rw [List.length_take]; omega
  rw [List.drop_append_of_le_length (by omega), List.drop_of_length_le (by omega)]
  rfl
set_option maxHeartbeats 4000000 in
set_option maxRecDepth 100000 in
theorem l2Test_c (s : List UInt8) (hl : s.length ≤ 1000000) (w : World) : Calls Tryd.prog 41 #[.string (str s)] w (RetB (tstV (spTest s)) w) := by
  have hsz := str_size s
  have HLT := Lib.hid (spAt_lt s)
  have HST : Hid (∀ k, (spAt s k).2 ≠ 0 → ∀ j, k ≤ j → spAt s j = spAt s k) := Lib.hid (fun k => spAt_stay)
  have HNX : Hid (∀ k c op, spAt s k = (op, 0) → s[k]? = some c → spAt s (k + 1) = (if 1 ≤ sigV c ∧ sigV c ≤ 3 then sigV c else op, if 1 ≤ sigV c ∧ sigV c ≤ 3 then k else 0)) := Lib.hid (fun k c op => spAt_next)
  have HSG := Lib.hid (fun k c (h : s[k]? = some c) => sig_eqb h 0)
  have hB := blk_pair w 67 67 [.int .i64 0, .int .i64 0, .int .i64 0, .int .i64 0] [.int .i64 0, .int .i64 4294967295, .int .i64 0, .int .i64 (-1)]
  have HB := Lib.hid hB
  clear hB
  obtain ⟨L, hL⟩ : ∃ L, L = str s := ⟨_, rfl⟩
  rw [← hL] at hsz HSG
  simp only [← hL]
  have HLe := Lib.hid hL
  clear hL
  go_enter Tryd.func41, Tryd.ntmps41
  go_wp2_with fail
  go_loopg [4, 5] s.length (fun gk a i wr => ∃ (k : Nat), gk + k = s.length ∧ i = .int .i64 k ∧ a = .int .i64 (spAt s k).2 ∧ Hid (Blk wr w.heap.size 67 [.int .i64 0, .int .i64 0, .int .i64 0, .int .i64 0]) ∧ Hid (Blk wr (w.heap.size + 1) 67 [.int .i64 0, .int .i64 4294967295, .int .i64 (spAt s k).1, .int .i64 (-1)]) ∧ Hid (Below w.heap.size w wr) ∧ w.heap.size + 1 < wr.heap.size)
  case atStart => exact ⟨0, by omega, rfl, rfl, HB.out.1, HB.out.2, Lib.hid (by go_grown), by simp⟩
  case round =>
    obtain ⟨k, hgk, rfl, rfl, B0, B1, HG, hz⟩ := hrel
    have hbs := HG.out.size
    obtain ⟨op, a, hoa⟩ : ∃ op a, spAt s k = (op, a) := ⟨_, _, rfl⟩
    rw [hoa] at B1
    rw [hoa]
    have HOA := Lib.hid hoa
    have hla : a ≠ 0 → a < k ∧ a < s.length := by have := HLT.out k; rw [hoa] at this; exact this
    clear hoa
    by_cases hin : k < s.length ∧ a = 0
    · obtain ⟨hk, rfl⟩ := hin
      obtain ⟨c, hc⟩ := some_at (l := s) rfl hk
      have hx := HSG.out k c hc
      have hN := HNX.out k c op HOA.out hc
      have HN := Lib.hid hN
      obtain ⟨gO, rfl⟩ : ∃ m, gk = m + 1 := ⟨gk - 1, by omega⟩
      clear hN hla hc
      have hsc : 1 ≤ sigV c → sigV c = 1 ∧ c = 61 ∨ sigV c = 2 ∧ c = 60 ∨ sigV c = 3 ∧ c = 62 := by
        intro h
        unfold sigV at h ⊢
        split
        · exact .inl ⟨rfl, by assumption⟩
        · split
          · exact .inr (.inl ⟨rfl, by assumption⟩)
          · split
            · exact .inr (.inr ⟨rfl, by assumption⟩)
            · rename_i h1 h2 h3
              rw [if_neg h1, if_neg h2, if_neg h3] at h
              omega
      have hs1 : c = 61 → sigV c = 1 := fun h => by rw [h]; rfl
      have hs2 : c = 60 → sigV c = 2 := fun h => by rw [h]; rfl
      have hs3 : c = 62 → sigV c = 3 := fun h => by rw [h]; rfl
      have HS1 := Lib.hid hs1
      have HS2 := Lib.hid hs2
      have HS3 := Lib.hid hs3
      have HSC := Lib.hid hsc
      clear hs1 hs2 hs3 hsc
      go_wp2_with fail
      go_loopg [4, 6] 3 (fun gk a2 j wr => ∃ (m : Nat) (x y : Int), gk + m = 3 ∧ j = .int .i64 ((m : Int) + 1) ∧ a2 = .int .i64 x ∧ Hid (x = ((if 1 ≤ sigV c ∧ sigV c ≤ m then k else 0 : Nat) : Int)) ∧ Hid (y = if 1 ≤ sigV c ∧ sigV c ≤ m then sigV c else op) ∧ Hid (Blk wr w.heap.size 67 [.int .i64 0, .int .i64 0, .int .i64 0, .int .i64 0]) ∧ Hid (Blk wr (w.heap.size + 1) 67 [.int .i64 0, .int .i64 4294967295, .int .i64 y, .int .i64 (-1)]) ∧ Hid (Below w.heap.size w wr) ∧ w.heap.size + 1 < wr.heap.size)
      case atStart => exact ⟨0, 0, op, rfl, rfl, rfl, Lib.hid (by rw [if_neg (by omega)]; rfl), Lib.hid (by rw [if_neg (by omega)]), B0, B1, HG, hz⟩
      case round =>
        obtain ⟨m, x, y, hgi, rfl, rfl, HX, HY, C0, C1, HGi, hzi⟩ := hrel
        have c10 := C1.out.cell (i := 2) rfl
        have c1f := C1.out.free
        have hbi := HGi.out.size
        by_cases hm : gk = 0
        · subst hm
          obtain rfl : m = 3 := by omega
          go_wp2
          go_roundg gO
          case measure => omega
          case rel =>
            go_light
            refine ⟨k + 1, by omega, by go_num, ?_, C0, ?_, HGi, hzi⟩
            · rw [HN.out, HX.out]; rfl
            · rw [HN.out]
              have := C1.out
              rw [HY.out] at this
              exact Lib.hid this
        · obtain ⟨G, rfl⟩ : ∃ j, gk = j + 1 := ⟨gk - 1, by omega⟩
          have hkk : k + 1 ≤ L.size := by omega
          rcases (show m = 0 ∨ m = 1 ∨ m = 2 by omega) with rfl | rfl | rfl
          · by_cases hs : c = 61
            · subst hs
              go_wp2_with fail
              go_region
              go_wp2
              go_roundg G
              case measure => omega
              case rel =>
                go_light
                refine ⟨1, k, 1, by omega, by go_num, by go_num, Lib.hid rfl, Lib.hid rfl, ?_, ?_, ?_, ?_⟩
                · exact ((C0.out.far (p := ⟨w.heap.size + 1, 2, none⟩) (by simp) _).alloc _).drew
                · exact ((C1.out.set_ 2 _).alloc _).drew
                · exact Lib.hid (below_drewT ((HGi.out.setCell (p := ⟨w.heap.size + 1, 2, none⟩) (by simp) _).alloc (by simp; omega) _))
                · simp; omega
            · have hq : ([c] == [(61 : UInt8)]) = false := by simpa using hs
              have hsn : ¬ sigV c = 1 := fun h => by
                rcases HSC.out (by omega) with ⟨a, b⟩ | ⟨a, b⟩ | ⟨a, b⟩
                · first | exact hs b | omega
                · first | exact hs b | omega
                · first | exact hs b | omega
              have hx2 : ((L.extract k (k + 1)).toList == [(61 : UInt8)]) = false := by rw [hx]; exact hq
              clear hx
              go_wp2_with fail
              go_region
              go_wp2
              go_roundg G
              case measure => omega
              case rel =>
                go_light
                refine ⟨1, x, y, by omega, by go_num, rfl, Lib.hid ?_, Lib.hid ?_, (C0.out.alloc _).drew, (C1.out.alloc _).drew, ?_, ?_⟩
                · rw [HX.out]
                  have : (1 ≤ sigV c ∧ sigV c ≤ ((0 : Nat) : Int)) ↔ (1 ≤ sigV c ∧ sigV c ≤ ((1 : Nat) : Int)) := by omega
                  simp only [this]
                · rw [HY.out]
                  have : (1 ≤ sigV c ∧ sigV c ≤ ((0 : Nat) : Int)) ↔ (1 ≤ sigV c ∧ sigV c ≤ ((1 : Nat) : Int)) := by omega
                  simp only [this]
                · show Below _ _ _
                  exact below_via HGi.out (by go_grown)
                · simp; omega
          · by_cases hs : c = 60
            · subst hs
              go_wp2_with fail
              go_region
              go_wp2
              go_roundg G
              case measure => omega
              case rel =>
                go_light
                refine ⟨2, k, 2, by omega, by go_num, by go_num, Lib.hid rfl, Lib.hid rfl, ?_, ?_, ?_, ?_⟩
                · exact ((C0.out.far (p := ⟨w.heap.size + 1, 2, none⟩) (by simp) _).alloc _).drew
                · exact ((C1.out.set_ 2 _).alloc _).drew
                · exact Lib.hid (below_drewT ((HGi.out.setCell (p := ⟨w.heap.size + 1, 2, none⟩) (by simp) _).alloc (by simp; omega) _))
                · simp; omega
            · have hq : ([c] == [(60 : UInt8)]) = false := by simpa using hs
              have hsn : ¬ sigV c = 2 := fun h => by
                rcases HSC.out (by omega) with ⟨a, b⟩ | ⟨a, b⟩ | ⟨a, b⟩
                · first | exact hs b | omega
                · first | exact hs b | omega
                · first | exact hs b | omega
              have hx2 : ((L.extract k (k + 1)).toList == [(60 : UInt8)]) = false := by rw [hx]; exact hq
              clear hx
              go_wp2_with fail
              go_region
              go_wp2
              go_roundg G
              case measure => omega
              case rel =>
                go_light
                refine ⟨2, x, y, by omega, by go_num, rfl, Lib.hid ?_, Lib.hid ?_, (C0.out.alloc _).drew, (C1.out.alloc _).drew, ?_, ?_⟩
                · rw [HX.out]
                  have : (1 ≤ sigV c ∧ sigV c ≤ ((1 : Nat) : Int)) ↔ (1 ≤ sigV c ∧ sigV c ≤ ((2 : Nat) : Int)) := by omega
                  simp only [this]
                · rw [HY.out]
                  have : (1 ≤ sigV c ∧ sigV c ≤ ((1 : Nat) : Int)) ↔ (1 ≤ sigV c ∧ sigV c ≤ ((2 : Nat) : Int)) := by omega
                  simp only [this]
                · show Below _ _ _
                  exact below_via HGi.out (by go_grown)
                · simp; omega
          · by_cases hs : c = 62
            · subst hs
              go_wp2_with fail
              go_region
              go_wp2
              go_roundg G
              case measure => omega
              case rel =>
                go_light
                refine ⟨3, k, 3, by omega, by go_num, by go_num, Lib.hid rfl, Lib.hid rfl, ?_, ?_, ?_, ?_⟩
                · exact ((C0.out.far (p := ⟨w.heap.size + 1, 2, none⟩) (by simp) _).alloc _).drew
                · exact ((C1.out.set_ 2 _).alloc _).drew
                · exact Lib.hid (below_drewT ((HGi.out.setCell (p := ⟨w.heap.size + 1, 2, none⟩) (by simp) _).alloc (by simp; omega) _))
                · simp; omega
            · have hq : ([c] == [(62 : UInt8)]) = false := by simpa using hs
              have hsn : ¬ sigV c = 3 := fun h => by
                rcases HSC.out (by omega) with ⟨a, b⟩ | ⟨a, b⟩ | ⟨a, b⟩
                · first | exact hs b | omega
                · first | exact hs b | omega
                · first | exact hs b | omega
              have hx2 : ((L.extract k (k + 1)).toList == [(62 : UInt8)]) = false := by rw [hx]; exact hq
              clear hx
              go_wp2_with fail
              go_region
              go_wp2
              go_roundg G
              case measure => omega
              case rel =>
                go_light
                refine ⟨3, x, y, by omega, by go_num, rfl, Lib.hid ?_, Lib.hid ?_, (C0.out.alloc _).drew, (C1.out.alloc _).drew, ?_, ?_⟩
                · rw [HX.out]
                  have : (1 ≤ sigV c ∧ sigV c ≤ ((2 : Nat) : Int)) ↔ (1 ≤ sigV c ∧ sigV c ≤ ((3 : Nat) : Int)) := by omega
                  simp only [this]
                · rw [HY.out]
                  have : (1 ≤ sigV c ∧ sigV c ≤ ((2 : Nat) : Int)) ↔ (1 ≤ sigV c ∧ sigV c ≤ ((3 : Nat) : Int)) := by omega
                  simp only [this]
                · show Below _ _ _
                  exact below_via HGi.out (by go_grown)
                · simp; omega
    · have hgo : spAt s s.length = (op, a) := by
        by_cases ha : a = 0
        · have : k = s.length := by omega
          rw [← this]; exact HOA.out
        · have := HST.out k (by rw [HOA.out]; exact ha) s.length (by omega)
          rw [this]; exact HOA.out
      have c0 := B1.out.cell (i := 0) rfl
      have c1 := B1.out.cell (i := 1) rfl
      have c2 := B1.out.cell (i := 2) rfl
      have c3 := B1.out.cell (i := 3) rfl
      have cf := B1.out.free
      have r0 := B0.out.cell (i := 0) rfl
      have r1 := B0.out.cell (i := 1) rfl
      have r2 := B0.out.cell (i := 2) rfl
      have r3 := B0.out.cell (i := 3) rfl
      have rf := B0.out.free
      by_cases ha : a = 0
      · subst ha
        obtain rfl : k = s.length := by omega
        have hE : spTest s = ⟨0, 4294967295, op, -1⟩ := by
          unfold spTest
          rw [hgo, if_pos (.inl rfl)]
        have HE := Lib.hid hE
        clear hgo hE
        go_wp2
        refine bodyPost_ret (v := .agg #[.int .i64 0, .int .i64 4294967295, .int .i64 op, .int .i64 (-1)]) (by simp [results, Tryd.results41, go_sem, r0, r1, r2, r3]) rfl ?_
        go_light
        rw [HE.out]
        exact ⟨rfl, (((HG.out.setCell (p := ⟨w.heap.size, 0, none⟩) (by simp) _).setCell (p := ⟨w.heap.size, 1, none⟩) (by simp) _).setCell (p := ⟨w.heap.size, 2, none⟩) (by simp) _).setCell (p := ⟨w.heap.size, 3, none⟩) (by simp) _⟩
      · have hla2 := hla ha
        obtain ⟨hak, has⟩ := hla2
        have h0s : 0 < s.length := by omega
        have hatA : ∀ h : 0 < L.size, L[0]'h = s[0]'h0s := by
          rw [HLe.out]
          intro h
          simp [str, ByteArray.getElem_eq_getElem_data]
        have hat0 := hatA (by omega)
        clear hatA
        have hhd : s.head? = some (s[0]'h0s) := by rw [List.head?_eq_getElem?, List.getElem?_eq_getElem]
        have haz : ((a : Int) == 0) = false := by simp; omega
        have hkk : (k : Int) < (s.length : Int) ∨ ¬ (k : Int) < (s.length : Int) := Decidable.em _
        by_cases h97 : s[0]'h0s = 97
        · have hE : spTest s = ⟨num2V ((cuts 38 ((s.take a).drop 1)).headD []), if (cuts 38 ((s.take a).drop 1)).length = 2 then num2V ((cuts 38 ((s.take a).drop 1)).getD 1 []) else 4294967295, op, num2V (s.drop (a + 1))⟩ := by
            unfold spTest
            rw [hgo, if_neg (by rw [hhd, h97]; simp; exact ha)]
          have hne : ((((L[0]'(by omega)).toNat : Nat) : Int) == 97) = true := by rw [hat0, h97]; rfl
          have hnb : ((((L[0]'(by omega)).toNat : Nat) : Int) != 97) = false := by rw [hat0, h97]; rfl
          have e1 : L.extract (a + 1) s.length = str (s.drop (a + 1)) := by
            have := HLe.out
            subst this
            rw [← hsz, drop_str]
          have e2 : L.extract 1 a = str ((s.take a).drop 1) := by rw [HLe.out, extract_str]
          have HN1 := Lib.hid (fun W => l2Num_c (s.drop (a + 1)) (by simp; omega) W)
          rw [← e1] at HN1
          have HC := Lib.hid (fun W => cut_c ((s.take a).drop 1) (by simp; omega) 38 W)
          rw [← e2] at HC
          have hps : ∀ p ∈ cuts 38 ((s.take a).drop 1), p.length ≤ 1000000 := fun p hp => by have := cuts_shortT hp; simp at this; omega
          have hpos := List.length_pos_iff.2 (cuts_ne 38 ((s.take a).drop 1))
          have HE := Lib.hid hE
          generalize num2V (s.drop (a + 1)) = v1 at *
          generalize cuts 38 ((s.take a).drop 1) = ps at *
          obtain ⟨p0, hp0⟩ := some_at (l := ps) rfl hpos
          have hl0 := hps p0 (List.mem_of_getElem? hp0)
          have HN2 := Lib.hid (fun W => l2Num_c p0 (by omega) W)
          have hd0 : ps.headD [] = p0 := by rw [List.headD_eq_head?_getD, List.head?_eq_getElem?, hp0]; rfl
          rw [hd0] at HE
          have HP0 := Lib.hid hp0
          have HPS := Lib.hid hps
          generalize num2V p0 = v0 at *
          clear hgo hE hat0 hhd h97 e1 e2 hd0 hp0 hps hla
          rcases hkk with hkk | hkk
          all_goals
            (go_wp2_with fail); (go_at_call 40; refine (HN1.out _).mono ?_; rintro e w1 ⟨rfl, rfl⟩; skip)
            (go_wp2_with fail); (go_at_call 17; refine (HC.out _).mono ?_; rintro e w2 ⟨A2, cc2, rfl, o2, b2⟩; skip)
            have D0 := Lib.hid ((B0.out.far (p := ⟨w.heap.size + 1, 3, none⟩) (by simp) (.int .i64 v1)).up b2)
            have D1 := Lib.hid ((B1.out.set_ 3 (.int .i64 v1)).up b2)
            have G2 := Lib.hid (below_via (HG.out.setCell (p := ⟨w.heap.size + 1, 3, none⟩) (by simp) (.int .i64 v1)) b2)
            have hs2 := b2.size
            simp at hs2
            obtain ⟨b, off, rfl, hb2, hc2⟩ := rd_strs (Rd.of_own o2) hpos
            have hcell0 := hc2 0 p0 HP0.out
            have HC2 := Lib.hid hc2
            simp at hcell0
            clear hc2 o2 b2
            have d0 := D1.out.cell (i := 0) rfl
            have d1 := D1.out.cell (i := 1) rfl
            have d2 := D1.out.cell (i := 2) rfl
            have d3 := D1.out.cell (i := 3) rfl
            have df := D1.out.free
            have e0 := D0.out.cell (i := 0) rfl
            have e1 := D0.out.cell (i := 1) rfl
            have e2 := D0.out.cell (i := 2) rfl
            have e3 := D0.out.cell (i := 3) rfl
            have ef := D0.out.free
            by_cases hp2 : ps.length = 2
            · obtain ⟨p1, hp1⟩ := some_at (l := ps) (k := 1) rfl (by omega)
              have hl1 := HPS.out p1 (List.mem_of_getElem? hp1)
              have hcell1 := HC2.out 1 p1 hp1
              have HN3 := Lib.hid (fun W => l2Num_c p1 (by omega) W)
              have hE := HE.out
              rw [if_pos hp2, List.getD_eq_getElem?_getD, hp1, Option.getD_some] at hE
              have HE := Lib.hid hE
              rw [hp2]
              generalize num2V p1 = v2 at *
              clear hE hp1
              (go_wp2_with fail); (go_at_call 40; refine (HN2.out _).mono ?_; rintro e w3 ⟨rfl, rfl⟩; skip)
              (go_wp2_with fail); (go_at_call 40; refine (HN3.out _).mono ?_; rintro e w4 ⟨rfl, rfl⟩; skip)
              go_wp2
              refine bodyPost_ret (v := .agg #[.int .i64 v0, .int .i64 v2, .int .i64 op, .int .i64 v1]) (by simp [results, Tryd.results41, go_sem, d0, d1, d2, d3, e0, e1, e2, e3]) rfl ?_
              go_light
              rw [HE.out]
              exact ⟨rfl, (((((G2.out.setCell (p := ⟨w.heap.size + 1, 0, none⟩) (by simp) _).setCell (p := ⟨w.heap.size + 1, 1, none⟩) (by simp) _).setCell (p := ⟨w.heap.size, 0, none⟩) (by simp) _).setCell (p := ⟨w.heap.size, 1, none⟩) (by simp) _).setCell (p := ⟨w.heap.size, 2, none⟩) (by simp) _).setCell (p := ⟨w.heap.size, 3, none⟩) (by simp) _⟩
            · have hE := HE.out
              rw [if_neg hp2] at hE
              clear HE
              have HE := Lib.hid hE
              have hpb : ((ps.length : Int) == 2) = false := by rw [beq_eq_false_iff_ne]; omega
              clear hE
              generalize ps.length = pn at *
              (go_wp2_with fail); (go_at_call 40; refine (HN2.out _).mono ?_; rintro e w3 ⟨rfl, rfl⟩; skip)
              go_wp2
              refine bodyPost_ret (v := .agg #[.int .i64 v0, .int .i64 4294967295, .int .i64 op, .int .i64 v1]) (by simp [results, Tryd.results41, go_sem, d0, d1, d2, d3, e0, e1, e2, e3]) rfl ?_
              go_light
              rw [HE.out]
              exact ⟨rfl, ((((G2.out.setCell (p := ⟨w.heap.size + 1, 0, none⟩) (by simp) _).setCell (p := ⟨w.heap.size, 0, none⟩) (by simp) _).setCell (p := ⟨w.heap.size, 1, none⟩) (by simp) _).setCell (p := ⟨w.heap.size, 2, none⟩) (by simp) _).setCell (p := ⟨w.heap.size, 3, none⟩) (by simp) _⟩
        · have hE : spTest s = ⟨0, 4294967295, op, -1⟩ := by
            unfold spTest
            rw [hgo, if_pos (.inr (by rw [hhd]; simpa using h97))]
          have HE := Lib.hid hE
          have hnn : (L[0]'(by omega)).toNat ≠ 97 := fun e => h97 (by rw [← hat0]; exact UInt8.toNat_inj.1 e)
          have hne : ((((L[0]'(by omega)).toNat : Nat) : Int) == 97) = false := by rw [beq_eq_false_iff_ne]; omega
          have hnb : ((((L[0]'(by omega)).toNat : Nat) : Int) != 97) = true := by rw [bne, hne]; rfl
          clear hgo hE hat0 hhd h97 hnn hla
          rcases hkk with hkk | hkk
          all_goals
            go_wp2
            refine bodyPost_ret (v := .agg #[.int .i64 0, .int .i64 4294967295, .int .i64 op, .int .i64 (-1)]) (by simp [results, Tryd.results41, go_sem, r0, r1, r2, r3]) rfl ?_
            go_light
            rw [HE.out]
            exact ⟨rfl, (((HG.out.setCell (p := ⟨w.heap.size, 0, none⟩) (by simp) _).setCell (p := ⟨w.heap.size, 1, none⟩) (by simp) _).setCell (p := ⟨w.heap.size, 2, none⟩) (by simp) _).setCell (p := ⟨w.heap.size, 3, none⟩) (by simp) _⟩
end Go.Proofs.YtflhniobbdanjaaDoor
