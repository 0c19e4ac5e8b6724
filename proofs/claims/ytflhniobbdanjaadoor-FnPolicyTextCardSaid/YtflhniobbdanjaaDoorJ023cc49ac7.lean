/- Parts of laws in one text. Conditions: each lemma's own. -/
import Derived.Test.YtflhniobbdanjaaDoorJ65971c684d
import Derived.Test.YtflhniobbdanjaaDoorRegInvD
namespace Go.Proofs.YtflhniobbdanjaaDoor
set_option linter.unusedSimpArgs false
open Go.RowKit
set_option linter.unusedVariables false
set_option linter.unnecessarySimpa false
set_option maxRecDepth 20000
theorem cuts_short {c : UInt8} {l p : List UInt8} (h : p ∈ cuts c l) : p.length ≤ l.length := by
  induction l generalizing p with
  | nil => simp [cuts] at h; subst h; simp
  | cons x t ih =>
    rw [cuts] at h
    split at h
    · rcases List.mem_cons.1 h with rfl | h
      · simp
      · have := ih h; simp; omega
    · split at h
      · rename_i a r e
        rcases List.mem_cons.1 h with rfl | h
        · have := ih (p := a) (by rw [e]; exact List.mem_cons_self); simp; omega
        · have := ih (p := p) (by rw [e]; exact List.mem_cons_of_mem _ h); simp; omega
      · rename_i e
        exact absurd e (cuts_ne c t)
theorem indexByte_yes {c : UInt8} : ∀ {l : List UInt8}, c ∈ l → 0 ≤ Lib.indexByte l c
  | [], h => by cases h
  | x :: t, h => by
    rw [Lib.indexByte]
    split
    · omega
    · rename_i hx
      have hm : c ∈ t := by
        rcases List.mem_cons.1 h with e | e
        · exact absurd (beq_iff_eq.2 e.symm) hx
        · exact e
      have := indexByte_yes hm
      split
      · rename_i e
        have := beq_iff_eq.1 e
        omega
      · omega
theorem below_drewK {B : Nat} {w w' : World} (h : Below B w w') : Below B w w'.drew := ⟨h.os, h.tape, h.output, h.size, h.block⟩
/-- What is left to be read, behind what has been. -/
def exA (rs : List Rl) : Except Nat (List Rl) → Except Nat (List Rl)
  | .ok rs' => .ok (rs ++ rs')
  | .error e => .error e
theorem exA_nil (x : Except Nat (List Rl)) : exA [] x = x := by cases x <;> rfl
theorem rdRows_yes {k : Nat} {l : List UInt8} {ls : List (List UInt8)} {r : Rl} {rs : List Rl} (h8 : k < 8) (hr : rdRule l = some r) : exA rs (rdRows k (l :: ls)) = exA (rs ++ [r]) (rdRows (k + 1) ls) := by
  rw [rdRows, if_neg (by omega), hr]
  cases rdRows (k + 1) ls with
  | error e => rfl
  | ok rs' => simp [exA]
theorem rdRows_no {k : Nat} {l : List UInt8} {ls : List (List UInt8)} {rs : List Rl} (h : 8 ≤ k ∨ rdRule l = none) : exA rs (rdRows k (l :: ls)) = .error (k + 1) := by
  rw [rdRows]
  by_cases h8 : 8 ≤ k
  · rw [if_pos h8]; rfl
  · rw [if_neg h8]
    rcases h with h | h
    · exact absurd h h8
    · rw [h]; rfl
/-- The call returns what was read, in memory of its own. -/
def RetRead (ER ET : Nat) (q : Pol × Int) (w : World) (e : Ending) (w' : World) : Prop :=
  ∃ A c qs, e = .returned (.tuple #[.agg #[.slice A q.1.rs.length c, .int .i64 q.1.els], .int .i64 q.2]) ∧ rls qs = q.1.rs ∧ OP w' w.heap.size w'.heap.size ER ET A q.1.rs.length c qs ∧ Apart qs ∧ Below w.heap.size w w'
theorem RetRead.none_ {ER ET : Nat} {n : Int} {w w' : World} (h : Below w.heap.size w w') : RetRead ER ET (⟨[], 0⟩, n) w (.returned (.tuple #[.agg #[.slice none 0 0, .int .i64 0], .int .i64 n])) w' :=
  ⟨none, 0, [], rfl, rfl, OP.nil_ _ _ _ _ _, Apart.nil_, h⟩
set_option maxHeartbeats 4000000 in
set_option maxRecDepth 100000 in
theorem readI_rows (l : List UInt8) (hl : l.length ≤ 900) (hn : (10 : UInt8) ∈ l) (w : World) :
    Calls Tryd.prog 6 #[.string (str l)] w (RetRead 40 67 (readF l) w) := by
  obtain ⟨i0, hi0, hz0, hz1, hz2⟩ := info_parts info_rule
  have hmf : ∀ (fn : Fn) (first cap : Array Value) (w : World), (Instr.makeFunc fn first cap).run Tryd.prog w = .ok (.func fn first cap) w := fun _ _ _ _ => rfl
  have hsz := str_size l
  have hd : decide ((900 : Int) < ((str l).size : Int)) = false := by simp; omega
  have hix : decide (0 ≤ Lib.indexByte (str l).data.toList 10) = true := by
    rw [str_list]
    exact decide_eq_true (indexByte_yes hn)
  have hC := fun W => Tryd.strings_Contains_one (str l) 10 W
  simp only [hix] at hC
  have HC := Lib.hid hC
  have hS := fun W => split_c l (by omega) W
  obtain ⟨N, hN⟩ : ∃ N, (cuts 10 l).length = N + 2 := ⟨(cuts 10 l).length - 2, by rw [cuts_len]; have := List.count_pos_iff.2 hn; omega⟩
  rw [hN] at hS
  have hSH : ∀ p ∈ cuts 10 l, p.length ≤ 900 := fun p hp => by have := cuts_short hp; omega
  have HF : Hid (readF l = match rdRows 0 ((cuts 10 l).take N) with
    | .error e => (⟨[], 0⟩, (e : Int))
    | .ok rs => match rdElse ((cuts 10 l).getD N []) with
      | none => (⟨[], 0⟩, ((N + 2 : Nat) : Int) - 1)
      | some v => if (cuts 10 l).getD (N + 1) [] = [] then (⟨rs, v⟩, 0) else (⟨[], 0⟩, ((N + 2 : Nat) : Int))) := Lib.hid (by
    unfold readF
    rw [hN, if_neg (by omega)]
    rfl)
  have HN := Lib.hid hN
  have hN9 : N ≤ 900 := by have := cuts_len 10 l; have := List.count_le_length (a := (10 : UInt8)) (l := l); omega
  have HS := Lib.hid hS
  have HSH := Lib.hid hSH
  clear hsz hC hix hS hN hSH
  generalize readF l = RF at *
  generalize cuts 10 l = R at *
  generalize str l = L at *
  go_enter_defers Tryd.func6, Tryd.ntmps6
  (go_wp2_with fail); (go_at_call 21; refine (HC.out _).mono ?_; rintro e w1 ⟨rfl, rfl⟩; skip)
  (go_wp2_with fail); (go_at_call 22; refine (HS.out _).mono ?_; rintro e w2 ⟨rfl, rfl⟩; skip)
  go_wp2_with fail
  have hB3 := blk_three w 24 3 9 [.slice none 0 0, .int .i64 0] [.int .i64 0] (R.map (Value.string ∘ str))
  have HB3 := Lib.hid hB3
  clear hB3
  go_loopg [30] N (fun gk i wr => ∃ (k : Nat) (Ao : Option Addr) (co : Nat) (qs : List (Rl × Value)), gk + k = N ∧ i = .int .i64 k ∧ Hid (rdRows 0 (R.take N) = exA (rls qs) (rdRows k ((R.take N).drop k))) ∧ Hid (Blk wr w.heap.size 24 [.slice Ao k co, .int .i64 0]) ∧ Hid (Blk wr (w.heap.size + 1) 3 [.int .i64 0]) ∧ Hid (Blk wr (w.heap.size + 1 + 1) 9 (R.map (Value.string ∘ str))) ∧
      Hid (OP wr (w.heap.size + 1 + 1 + 1) wr.heap.size 40 67 Ao k co qs) ∧ Hid (Apart qs) ∧ Hid (Below w.heap.size w wr) ∧ w.heap.size + 1 + 1 < wr.heap.size)
  case atStart => exact ⟨0, none, 0, [], by omega, rfl, Lib.hid (by rw [show rls [] = [] from rfl, exA_nil, List.drop_zero]), HB3.out.1, HB3.out.2.1, HB3.out.2.2, Lib.hid (OP.nil_ _ _ _ _ _), Lib.hid Apart.nil_, by show Below _ _ _; go_grown, by simp⟩
  case round =>
    obtain ⟨k, Ao, co, qs, hgk, rfl, HR, BP, BF, BR, HO, HA, HG, hz⟩ := hrel
    have hbs := HG.out.size
    have p0 := BP.out.cell (i := 0) rfl
    have pf := BP.out.free
    by_cases hk : gk = 0
    · subst hk
      obtain rfl : k = N := by omega
      have hRk : rdRows 0 (R.take k) = .ok (rls qs) := by
        rw [HR.out, List.drop_of_length_le (by rw [List.length_take]; omega)]
        simp [rdRows, exA]
      have hF1 := HF.out
      rw [hRk] at hF1
      have HF1 := Lib.hid hF1
      have hql := HO.out.len
      have hkk : ¬ (k < k) := Nat.lt_irrefl k
      obtain ⟨lN, hlN⟩ := some_at (l := R) (k := k) HN.out (by omega)
      obtain ⟨lT, hlT⟩ := some_at (l := R) (k := k + 1) HN.out (by omega)
      have hgN : R.getD k [] = lN := by rw [List.getD_eq_getElem?_getD, hlN]; rfl
      have hgT : R.getD (k + 1) [] = lT := by rw [List.getD_eq_getElem?_getD, hlT]; rfl
      rw [hgN, hgT] at HF1
      have hcN := BR.out.cell (i := k) (u := .string (str lN)) (by rw [List.getElem?_map, hlN]; rfl)
      have HLT := Lib.hid hlT
      have HB := Lib.hid (Blk.new wr 53 [.string (str lN), .int .i64 ((k : Int) + 1)])
      have HOK := Lib.hid (OP.up HO.out (w' := wr.alloc (.cells #[.string (str lN), .int .i64 ((k : Int) + 1)] 53)) (by go_grown))
      clear hRk hF1 hgN hgT hlN hlT
      cases ee : rdElse lN with
      | none =>
        have hRF : RF = (⟨[], 0⟩, (k : Int) + 1) := by
          have := HF1.out
          simp only [ee] at this
          rw [this]
          exact congrArg (Prod.mk _) (by omega)
        have HRF := Lib.hid hRF
        clear hRF
        (go_wp2_with fail); (go_at_call 25; refine (otherC_no wr.heap.size lN ((k : Int) + 1) _ HB.out ee).mono ?_; rintro e w3 ⟨rfl, hg3⟩; skip)
        refine leaves_cons (f := 20) (args := #[.pointer (some ⟨w.heap.size, 0, none⟩), .pointer (some ⟨w.heap.size + 1, 0, none⟩)]) (by simp) (by simp [go_sem]) ?_
        refine (catch_line w.heap.size (w.heap.size + 1) ((k : Int) + 1) _ _ _ _ ((BP.out.alloc _).other hg3 (by simp; omega)) ((BF.out.alloc _).other hg3 (by simp; omega)) (by omega)).mono ?_
        rintro e u' w9 ⟨rfl, ⟨pv, rfl⟩, P9, F9, K9⟩
        have q0 := P9.cell (i := 0) rfl
        have q1 := P9.cell (i := 1) rfl
        have f0 := F9.cell (i := 0) rfl
        have G9 := Lib.hid (((HG.out.alloc hbs _).trans (gr_below hg3 hbs (by simp; omega))).trans (K9.below (B := w.heap.size) (by have := hg3.size; simp at this; omega) (fun t ht => by omega)))
        clear P9 F9 K9
        simp [Leaves, settle, results, Tryd.results6, go_sem, q0, q1, f0]
        rw [HRF.out]
        exact RetRead.none_ G9.out
      | some v =>
        (go_wp2_with fail); (go_at_call 25; refine (otherC_yes wr.heap.size lN v ((k : Int) + 1) _ HB.out ee).mono ?_; rintro e w3 ⟨rfl, hg3⟩; skip)
        have P3 := Lib.hid ((BP.out.alloc _).other hg3 (by simp; omega))
        have F3 := Lib.hid ((BF.out.alloc _).other hg3 (by simp; omega))
        have R3 := Lib.hid ((BR.out.alloc _).other hg3 (by simp; omega))
        have B3 := Lib.hid ((show Below wr.heap.size wr _ from by go_grown).trans (gr_below hg3 (Nat.le_refl _) (by simp)))
        have hs3 := hg3.size
        simp at hs3
        clear hg3
        have O3 := Lib.hid (HO.out.up B3.out)
        have G3 := Lib.hid (below_via HG.out B3.out)
        have p31 := P3.out.cell (i := 1) rfl
        have p3f := P3.out.free
        have hcT := (R3.out.far (p := ⟨w.heap.size, 1, none⟩) (by simp; omega) (.int .i64 v)).cell (i := k + 1) (u := .string (str lT)) (by rw [List.getElem?_map, HLT.out]; rfl)
        have PS := Lib.hid (P3.out.set_ 1 (.int .i64 v))
        have FS := Lib.hid (F3.out.far (p := ⟨w.heap.size, 1, none⟩) (by simp) (.int .i64 v))
        have GS := Lib.hid (G3.out.setCell (p := ⟨w.heap.size, 1, none⟩) (by simp) (.int .i64 v))
        have OS := Lib.hid (O3.out.set_ (g := w.heap.size) (o := 1) (.inl (by omega)) (.int .i64 v))
        have HBT := Blk.new (w3.setCell ⟨w.heap.size, 1, none⟩ (.int .i64 v)) 53 [.string (str lT), .int .i64 ((k : Int) + 2)]
        rw [World.size_setCell] at HBT
        have HBT := Lib.hid HBT
        have HDN := Lib.hid (fun W h => done_c w3.heap.size lT ((k : Int) + 2) W h)
        by_cases hd : lT = []
        · have hdd : decide (lT = []) = true := by simpa using hd
          have hRF : RF = (⟨rls qs, v⟩, 0) := by
            have := HF1.out
            simp only [ee, hd, if_true] at this
            exact this
          have HRF := Lib.hid hRF
          rw [hdd] at HDN
          clear hRF hdd hd
          (go_wp2_with fail); (go_at_call 26; refine (HDN.out _ HBT.out).mono ?_; rintro e w4 ⟨rfl, rfl⟩; skip)
          (go_wp2_with fail); (go_at_call 23; refine (need_yes w3.heap.size lT ((k : Int) + 2) _ HBT.out).mono ?_; rintro e w5 ⟨rfl, rfl⟩; skip)
          have PA := Lib.hid (PS.out.alloc (.cells #[.string (str lT), .int .i64 ((k : Int) + 2)] 53))
          have FA := Lib.hid (FS.out.alloc (.cells #[.string (str lT), .int .i64 ((k : Int) + 2)] 53))
          have a0 := PA.out.cell (i := 0) rfl
          have a1 := PA.out.cell (i := 1) rfl
          have af := PA.out.free
          have b0 := FA.out.cell (i := 0) rfl
          have bf := FA.out.free
          go_wp2
          refine leaves_cons (f := 20) (args := #[.pointer (some ⟨w.heap.size, 0, none⟩), .pointer (some ⟨w.heap.size + 1, 0, none⟩)]) (by simp) (by simp [go_sem]) ?_
          refine (catch_idle w.heap.size (w.heap.size + 1) _).mono ?_
          rintro e u' w'' ⟨rfl, rfl, rfl⟩
          simp [Leaves, settle, results, Tryd.results6, go_sem, a0, a1, b0]
          have hrl : (rls qs).length = k := by rw [rls_len]; exact hql
          rw [HRF.out]
          refine ⟨Ao, co, qs, ?_, rfl, ?_, HA.out, ?_⟩
          · show _ = Ending.returned (.tuple #[.agg #[.slice Ao (rls qs).length co, .int .i64 v], .int .i64 0])
            rw [hrl]
          · show OP _ _ _ _ _ _ (rls qs).length _ _
            rw [hrl]
            exact ((((OS.out.up (Below.alloc (Below.refl _ _) (Nat.le_refl _) (.cells #[.string (str lT), .int .i64 ((k : Int) + 2)] 53))).set_ (g := w.heap.size) (o := 0) (.inl (by omega)) _).set_ (g := w.heap.size) (o := 1) (.inl (by omega)) _).set_ (g := w.heap.size + 1) (o := 0) (.inl (by omega)) _).wide (by omega) (by simp; omega)
          · exact (((GS.out.alloc (by simp; omega) _).setCell (p := ⟨w.heap.size, 0, none⟩) (by simp) _).setCell (p := ⟨w.heap.size, 1, none⟩) (by simp) _).setCell (p := ⟨w.heap.size + 1, 0, none⟩) (by simp) _
        · have hdd : decide (lT = []) = false := by simpa using hd
          have hRF : RF = (⟨[], 0⟩, (k : Int) + 2) := by
            have := HF1.out
            simp only [ee, if_neg hd] at this
            rw [this]
            exact congrArg (Prod.mk _) (by omega)
          have HRF := Lib.hid hRF
          rw [hdd] at HDN
          clear hRF hdd hd
          (go_wp2_with fail); (go_at_call 26; refine (HDN.out _ HBT.out).mono ?_; rintro e w4 ⟨rfl, rfl⟩; skip)
          (go_wp2_with fail); (go_at_call 23; refine (need_no w3.heap.size lT ((k : Int) + 2) _ HBT.out).mono ?_; rintro e w5 ⟨rfl, rfl⟩; skip)
          refine leaves_cons (f := 20) (args := #[.pointer (some ⟨w.heap.size, 0, none⟩), .pointer (some ⟨w.heap.size + 1, 0, none⟩)]) (by simp) (by simp [go_sem]) ?_
          refine (catch_line w.heap.size (w.heap.size + 1) ((k : Int) + 2) _ _ _ _ (PS.out.alloc _) (FS.out.alloc _) (by omega)).mono ?_
          rintro e u' w9 ⟨rfl, ⟨pv, rfl⟩, P9, F9, K9⟩
          have q0 := P9.cell (i := 0) rfl
          have q1 := P9.cell (i := 1) rfl
          have f0 := F9.cell (i := 0) rfl
          have G9 := Lib.hid ((GS.out.alloc (by simp; omega) _).trans (K9.below (B := w.heap.size) (by simp; omega) (fun t ht => by omega)))
          clear P9 F9 K9
          simp [Leaves, settle, results, Tryd.results6, go_sem, q0, q1, f0]
          rw [HRF.out]
          exact RetRead.none_ G9.out
    · obtain ⟨G, rfl⟩ : ∃ j, gk = j + 1 := ⟨gk - 1, by omega⟩
      obtain ⟨lk, hlk⟩ := some_at (l := R) (k := k) HN.out (by omega)
      have hl9 := HSH.out lk (List.mem_of_getElem? hlk)
      have hck := BR.out.cell (i := k) (u := .string (str lk)) (by rw [List.getElem?_map, hlk]; rfl)
      have hdk : (R.take N).drop k = lk :: (R.take N).drop (k + 1) := by
        have : (R.take N)[k]? = some lk := by rw [List.getElem?_take_of_lt (by omega)]; exact hlk
        have hlt := (List.getElem?_eq_some_iff.1 this).1
        rw [List.drop_eq_getElem_cons hlt]
        congr 1
        rw [List.getElem?_eq_getElem hlt] at this
        injection this
      rw [hdk] at HR
      clear hdk hlk
      have HB := Lib.hid (Blk.new wr 53 [.string (str lk), .int .i64 ((k : Int) + 1)])
      have hkN : k < N := by omega
      have hne0 : w.heap.size < wr.heap.size := by omega
      have hpc := (BP.out.alloc (.cells #[.string (str lk), .int .i64 ((k : Int) + 1)] 53)).cell (i := 0) rfl
      by_cases h8 : k < 8
      · have h8d : decide ((k : Int) < 8) = true := by simp; omega
        (go_wp2_with fail); (go_at_call 23; refine (need_yes wr.heap.size lk ((k : Int) + 1) _ HB.out).mono ?_; rintro e w3 ⟨rfl, rfl⟩; skip)
        cases er : rdRule lk with
        | none =>
          have hE := HR.out.trans (rdRows_no (.inr er))
          have hRF : RF = (⟨[], 0⟩, (k : Int) + 1) := by
            have := HF.out
            rw [hE] at this
            exact this
          have HRF := Lib.hid hRF
          clear hE hRF
          go_wp2_with fail
          refine wp_region_invGD [some 45, some 46, some 47, some 48, some 49, some 50, some 51, none]
            (fun _ W0 => Blk W0 wr.heap.size 53 [.string (str lk), .int .i64 ((k : Int) + 1)] ∧ Blk W0 w.heap.size 24 [.slice Ao k co, .int .i64 0] ∧ Blk W0 (w.heap.size + 1) 3 [.int .i64 0] ∧ Below w.heap.size w W0 ∧ wr.heap.size ≤ W0.heap.size)
            (fun j x _ => match j with | 0 => x = .pointer (some ⟨w.heap.size, 0, none⟩) | 2 => x = .pointer (some ⟨wr.heap.size, 0, none⟩) | 3 => False | 4 => False | 5 => False | _ => True) (by kernel_rfl) (by kernel_rfl) ⟨HB.out.drew, (BP.out.alloc _).drew, (BF.out.alloc _).drew, below_drewK (HG.out.alloc hbs _), by simp⟩ ?_ ?_
          · simp only [setAll, putS, List.zipIdx_cons, List.zipIdx_nil, List.foldl_cons, List.foldl_nil, Nat.reduceAdd, List.setIfInBounds_toArray, List.set_cons_zero, List.set_cons_succ]
            refine ⟨fun u w0 c0 hc0 hW hd K hK => if_yes rfl ?_, ?_⟩
            · go_simp
              refine kaD (hK _ w0 hW (fun _ _ h => h) rfl) ?_
              simp [updU, *]
            refine ⟨fun u w0 c0 hc0 hW hd K hK => if_yes rfl ?_, ?_⟩
            · have e0 : u 0 = .pointer (some ⟨w.heap.size, 0, none⟩) := hd 0 (of_decide_eq_true (by kernel_rfl))
              have hc3 := hW.2.1.cell (i := 0) rfl
              go_simp
              refine kaD (hK (.slice Ao k co) w0 hW (fun _ _ h => h) trivial) ?_
              simp [updU, *]
            refine ⟨fun u w0 c0 hc0 hW hd K hK => if_yes rfl ?_, ?_⟩
            · go_simp
              refine kaD (hK _ w0 hW (fun _ _ h => h) rfl) ?_
              simp [updU, *]
            refine ⟨fun u w0 c0 hc0 hW hd K hK => if_yes rfl ?_, ?_⟩
            · have e2 : u 2 = .pointer (some ⟨wr.heap.size, 0, none⟩) := hd 2 (of_decide_eq_true (by kernel_rfl))
              obtain ⟨hW1, hW2, hW3, hW4, hW5⟩ := hW
              go_simp
              go_at_call 24
              refine (ruleC_no wr.heap.size lk ((k : Int) + 1) (by omega) _ hW1 er).mono ?_
              rintro e w4 ⟨rfl, hg⟩
              refine leaves_cons (f := 20) (args := #[.pointer (some ⟨w.heap.size, 0, none⟩), .pointer (some ⟨w.heap.size + 1, 0, none⟩)]) (by simp) (by simp [go_sem]) ?_
              refine (catch_line w.heap.size (w.heap.size + 1) ((k : Int) + 1) _ _ _ _ (hW2.other hg (by simp; omega)) (hW3.other hg (by simp; omega)) (by omega)).mono ?_
              rintro e u' w9 ⟨rfl, ⟨pv, rfl⟩, P9, F9, K9⟩
              have q0 := P9.cell (i := 0) rfl
              have q1 := P9.cell (i := 1) rfl
              have f0 := F9.cell (i := 0) rfl
              have G9 := Lib.hid ((hW4.trans (gr_below hg hbs (by omega))).trans (K9.below (B := w.heap.size) (by have := hg.size; omega) (fun t ht => by omega)))
              clear P9 F9 K9
              simp [Leaves, settle, results, Tryd.results6, go_sem, q0, q1, f0]
              rw [HRF.out]
              exact RetRead.none_ G9.out
            refine ⟨fun u w0 c0 hc0 hW hd K hK => (hd 3 (of_decide_eq_true (by kernel_rfl)) : False).elim, ?_⟩
            refine ⟨fun u w0 c0 hc0 hW hd K hK => (hd 4 (of_decide_eq_true (by kernel_rfl)) : False).elim, ?_⟩
            refine ⟨fun u w0 c0 hc0 hW hd K hK => if_yes rfl ?_, ?_⟩
            · go_simp
              refine kaD (hK (.pointer (some ⟨w.heap.size, 0, none⟩)) w0 hW (fun _ _ h => h) trivial) ?_
              simp [updU, *]
            refine ⟨fun u w0 c0 hc0 hW hd K hK => (hd 5 (of_decide_eq_true (by kernel_rfl)) : False).elim, ?_⟩
            exact trivial
          · intro u w0 hW hV
            exact (hV 3 (by decide) : False).elim
        | some r =>
          have hE := HR.out.trans (rdRows_yes h8 er)
          have HE := Lib.hid hE
          clear hE
          go_wp2_with fail
          refine wp_calm ?_
          go_region_law (first
            | (refine step_append_rd _ (by rfl) _ _ _ (by rfl) (w.heap.size + 1 + 1 + 1) 40 i0 _ 4 48 Tryd.underlying22 hi0 hz0 hz1 hz2 rfl (by omega) (.slice Ao k co) k (rcells qs) (by rfl) HOW.out.own (w9.heap.size + 1) (some ⟨w9.heap.size, 0, none⟩) 1 1 _ (by rfl) (rd_new rfl 40 4 1 (rcells [(r, .slice TA r.ts.length tc)]) rfl) (one_rcells (fun q hq => by rw [List.mem_singleton.1 hq]; exact T9.out)) (by unfold maxLen; omega) (by omega) (by simp; omega) ?_; intro A10 c10 w10 ho10 hg10 ha10; have hs10 := hg10.size; simp at hs10; have HOB : Hid (∀ b, (Value.slice Ao k co).ownBlock = some b → w.heap.size + 1 + 1 + 1 ≤ b) := Lib.hid (fun b e => (HO.out.lt b e).1); have O10 := Lib.hid (HOW.out.app (by decide) (hi' := w10.heap.size) (fun q hq => by rw [List.mem_singleton.1 hq]; exact T9A.out.wide (by omega) (by omega)) (by omega) ho10 hg10 (Nat.le_refl _)); have A10' := Lib.hid (HA.out.new HO.out (q := (r, .slice TA r.ts.length tc)) (B := wr.heap.size) (fun g e => (T9.out.lt g e).1) (Nat.le_refl _)); have P10 := Lib.hid ((P9.out.alloc _).other hg10 (fun e => by have := HOB.out _ e; omega)); have F10 := Lib.hid ((F9.out.alloc _).other hg10 (fun e => by have := HOB.out _ e; omega)); have R10 := Lib.hid ((R9.out.alloc _).other hg10 (fun e => by have := HOB.out _ e; omega)); have y10 := P10.out.cell (i := 0) rfl; have yf10 := P10.out.free; have G10 := Lib.hid (below_app (below_via HG.out (B9.out.alloc hs9 _)) hg10 (fun b e => by have := HOB.out b e; omega) (Nat.le_refl _)); clear ho10 hg10 ha10)
            | (go_simp; go_at_call 24; refine (ruleC_yes wr.heap.size lk r ((k : Int) + 1) (by omega) _ HB.out.drew er).mono ?_; rintro e w9 ⟨TA, tc, rfl, ho9, hg9⟩; have B9 := Lib.hid ((show Below wr.heap.size wr _ from by go_grown).trans (gr_below hg9 (Nat.le_refl _) (by simp))); have P9 := Lib.hid ((BP.out.alloc _).drew.other hg9 (by simp; omega)); have F9 := Lib.hid ((BF.out.alloc _).drew.other hg9 (by simp; omega)); have R9 := Lib.hid ((BR.out.alloc _).drew.other hg9 (by simp; omega)); have T9 := Lib.hid (show TO w9 wr.heap.size w9.heap.size 67 (r, .slice TA r.ts.length tc) from ⟨own_base ho9 (by simp), fun g e => (ho9.lt g e).2⟩); have hs9 := B9.out.size; have z9 : w.heap.size < w9.heap.size := (by omega); have ps9 := P9.out.cell (i := 0) rfl; have pf9 := P9.out.free; have HOW := Lib.hid (HO.out.up (B9.out.alloc hs9 (.cells #[.int .i64 r.v, .int .i64 r.lo, .int .i64 r.hi, .slice TA r.ts.length tc] 40))); have T9A := Lib.hid (T9.out.up (Below.alloc (Below.refl _ _) (Nat.le_refl _) (.cells #[.int .i64 r.v, .int .i64 r.lo, .int .i64 r.hi, .slice TA r.ts.length tc] 40))); clear ho9 hg9))
          all_goals
            simp only [calm]
            go_wp2
            go_roundg G
            case measure => omega
            case rel =>
              go_light
              refine ⟨k + 1, A10, c10, qs ++ [(r, .slice TA r.ts.length tc)], by omega, by go_num, Lib.hid ?_, P10.out.set_ 0 _, F10.out.far (by simp) _, R10.out.far (by simp; omega) _, Lib.hid ((O10.out.set_ (g := w.heap.size) (o := 0) (.inl (by omega)) _).wide (Nat.le_refl _) (by simp)), A10', Lib.hid (G10.out.setCell (p := ⟨w.heap.size, 0, none⟩) (by simp) _), by simp; omega⟩
              rw [HE.out, rls_app]
              rfl
      · have hE := HR.out.trans (rdRows_no (.inl (by omega)))
        have h8d : decide ((k : Int) < 8) = false := by simp; omega
        have hRF : RF = (⟨[], 0⟩, (k : Int) + 1) := by
          have := HF.out
          rw [hE] at this
          exact this
        have HRF := Lib.hid hRF
        clear hE hRF
        (go_wp2_with fail); (go_at_call 23; refine (need_no wr.heap.size lk ((k : Int) + 1) _ HB.out).mono ?_; rintro e w3 ⟨rfl, rfl⟩; skip)
        refine leaves_cons (f := 20) (args := #[.pointer (some ⟨w.heap.size, 0, none⟩), .pointer (some ⟨w.heap.size + 1, 0, none⟩)]) (by simp) (by simp [go_sem]) ?_
        refine (catch_line w.heap.size (w.heap.size + 1) ((k : Int) + 1) _ _ _ _ (BP.out.alloc _) (BF.out.alloc _) (by omega)).mono ?_
        rintro e u' w9 ⟨rfl, ⟨pv, rfl⟩, P9, F9, K9⟩
        have q0 := P9.cell (i := 0) rfl
        have q1 := P9.cell (i := 1) rfl
        have f0 := F9.cell (i := 0) rfl
        have G9 := Lib.hid ((HG.out.alloc hbs _).trans (K9.below (B := w.heap.size) (by simp; omega) (fun t ht => by omega)))
        clear P9 F9 K9
        simp [Leaves, settle, results, Tryd.results6, go_sem, q0, q1, f0]
        rw [HRF.out]
        exact RetRead.none_ G9.out
end Go.Proofs.YtflhniobbdanjaaDoor
namespace Go.Proofs.YtflhniobbdanjaaDoor
set_option linter.unusedSimpArgs false
open Go.RowKit
set_option linter.unusedVariables false
set_option linter.unnecessarySimpa false
theorem readI_c (l : List UInt8) (hl : l.length ≤ 1048576) (w : World) :
    Calls Tryd.prog 6 #[.string (str l)] w (RetRead 40 67 (readF l) w) := by
  by_cases h9 : 900 < l.length
  · have e : readF l = (⟨[], 0⟩, 1) := by unfold readF; rw [if_pos (.inl h9)]
    rw [e]
    exact (readI_long l h9 (by omega) w).mono (fun e w' h => by rw [h.1]; exact RetRead.none_ h.2)
  · by_cases hn : (10 : UInt8) ∈ l
    · exact readI_rows l (by omega) hn w
    · have e : readF l = (⟨[], 0⟩, 1) := by unfold readF; rw [if_pos (.inr (by rw [cuts_no hn]; simp))]
      rw [e]
      exact (readI_nonl l (by omega) hn w).mono (fun e w' h => by rw [h.1]; exact RetRead.none_ h.2)
end Go.Proofs.YtflhniobbdanjaaDoor
