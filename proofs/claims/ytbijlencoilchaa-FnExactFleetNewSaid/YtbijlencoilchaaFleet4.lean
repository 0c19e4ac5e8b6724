/- The contract of the reference's FleetNew. Conditions: each contract's own. -/
import Derived.Test.YtbijlencoilchaaFleet3
namespace Go.Proofs.Ytbijlencoilchaa
open Go.RowKit
set_option linter.unusedVariables false
set_option linter.unnecessarySimpa false
/-- x's block is none of v's. -/
def Ap (x v : Value) : Prop := ∀ b, x.ownBlock = some b → v.ownBlock ≠ some b
theorem Ap.keep {x v : Value} (h : Ap x v) : x.ownBlock = none ∨ x.ownBlock ≠ v.ownBlock := by
  cases hx : x.ownBlock with
  | none => exact .inl rfl
  | some b => exact .inr (fun e => h b hx e.symm)
theorem Ap.symm {x v : Value} (h : Ap x v) : Ap v x := fun b hb e => h b e hb
theorem Ap.new {x v : Value} {g n c H : Nat} (h : Ap x v) (hx : ∀ b, x.ownBlock = some b → b < H) (hat : v.ownBlock = some g ∨ g = H) : Ap x (.slice (some ⟨g, 0, none⟩) n c) := by
  intro b hb e
  have e : g = b := by simpa [Value.ownBlock] using e
  subst e
  rcases hat with e | e
  · exact h g hb e
  · have := hx g hb; omega
theorem Ap.nil_ (v : Value) : Ap (.slice none 0 0) v := fun b hb => by simp [Value.ownBlock] at hb
def zeros (n : Nat) : List Int := List.replicate n 0
theorem zeros_succ (n : Nat) : ints (zeros n) ++ [.int .i64 0] = ints (zeros (n + 1)) := by simp [ints, zeros, List.replicate_succ']
theorem one_cells (w : World) (t g : Nat) (x : Value) (hg : g = w.heap.size) : ∀ j u, ([x] : List Value)[j]? = some u → (w.alloc (.cells #[x] t)).cell? ((⟨g, 0, none⟩ : Addr).add j) = some u :=
  fun j u hu => by rw [add_zero_block]; exact (Blk.at_new w t g [x] hg).cell hu
set_option maxHeartbeats 4000000 in
set_option maxRecDepth 100000 in
theorem specFleetNew_c (s : ByteArray) (hs : s.size ≤ 64) (w : World) : Calls Try.prog 36 #[.string s] w (fun e w' => ∃ gR cR gD cD gG cG, e = .returned (.agg #[.string s, .slice none 0 0, .slice (some ⟨gR, 0, none⟩) 3 cR, .slice (some ⟨gD, 0, none⟩) 3 cD, .slice (some ⟨gG, 0, none⟩) 3 cG, .slice none 0 0, .slice none 0 0]) ∧
    w'.ownsRow w.heap.size 3 1 (.slice (some ⟨gR, 0, none⟩) 3 cR) 3 (ints (zeros 3)) ∧ w'.ownsRow w.heap.size 3 1 (.slice (some ⟨gD, 0, none⟩) 3 cD) 3 (ints (zeros 3)) ∧
    w'.ownsRow w.heap.size 26 6 (.slice (some ⟨gG, 0, none⟩) 3 cG) 3 (gcells (kgate s) 3) ∧ Below w.heap.size w w') := by
  have hk : decide (64 < (s.size : Int)) = false := by simp; omega
  obtain ⟨i0, hi0, hz0, hz1, hz2⟩ := info_parts info_gate
  obtain ⟨j0, hj0, hy0, hy1, hy2⟩ := info_parts info_int
  go_enter Try.func36, Try.ntmps36
  go_wp2
  go_loopg [4] 3 (fun gk i wr => ∃ (k : Nat) (vR vD vG : Value), gk + k = 3 ∧ i = .int .i64 k ∧
      Hid (Blk wr w.heap.size 66 [.string ⟨#[]⟩, .slice none 0 0, .slice none 0 0, .slice none 0 0, .slice none 0 0, .slice none 0 0, .slice none 0 0]) ∧
      Hid (Blk wr (w.heap.size + 1) 66 [.string s, .slice none 0 0, vR, vD, vG, .slice none 0 0, .slice none 0 0]) ∧
      Hid (wr.ownsRow (w.heap.size + 2) 3 1 vR k (ints (zeros k))) ∧ Hid (wr.ownsRow (w.heap.size + 2) 3 1 vD k (ints (zeros k))) ∧ Hid (wr.ownsRow (w.heap.size + 2) 26 6 vG k (gcells (kgate s) k)) ∧
      Hid (Ap vR vD) ∧ Hid (Ap vR vG) ∧ Hid (Ap vD vG) ∧ Hid (Below w.heap.size w wr) ∧ w.heap.size + 2 ≤ wr.heap.size)
  case atStart => exact ⟨0, _, _, _, rfl, rfl, (Blk.at_new _ _ _ _ rfl).alloc _, Blk.at_new _ _ _ _ (by simp), World.ownsRow_nil _ _ _ _, World.ownsRow_nil _ _ _ _, World.ownsRow_nil _ _ _ _, Ap.nil_ _, Ap.nil_ _, Ap.nil_ _, Lib.hid (by go_grown), by simp⟩
  case round =>
    obtain ⟨k, vR, vD, vG, hgk, rfl, HA, HF, HR, HD, HG, ARD, ARG, ADG, HB, hz⟩ := hrel
    have c4 := HF.out.cell (i := 4) rfl
    have cf := HF.out.free
    have hoG : ∀ b, vG.ownBlock = some b → w.heap.size + 2 ≤ b := fun b hb => (HG.out.lt b hb).1
    have HOG := Lib.hid hoG
    have hoR : ∀ b, vR.ownBlock = some b → w.heap.size + 2 ≤ b := fun b hb => (HR.out.lt b hb).1
    have HOR := Lib.hid hoR
    have hoD : ∀ b, vD.ownBlock = some b → w.heap.size + 2 ≤ b := fun b hb => (HD.out.lt b hb).1
    have HOD := Lib.hid hoD
    clear hoG hoR hoD
    by_cases hk : k < 3
    · obtain ⟨gk, rfl⟩ : ∃ m, gk = m + 1 := ⟨gk - 1, by omega⟩
      have hFr : w.heap.size + 1 < wr.heap.size := by omega
      go_wp2
      go_region_law (first
        | (refine step_append_lies _ (by rfl) _ _ _ (by rfl) (w.heap.size + 2) 26 i0 _ 6 88 Try.underlying62 hi0 hz0 hz1 hz2 rfl (by omega) vG k (gcells (kgate s) k) (by rfl) (HG4.out.alloc _)
             ⟨w4.heap.size, 0, none⟩ 1 1 (kgate s 0) (by rfl) (by rfl) (gate_cells _ _ _ _ rfl) (by simp [kgate, Value.oneCell']) (by omega) (by unfold maxLen; omega) (by omega) (by simp; omega) _ rfl ?_; intro gg cap w5 hown5 hgr5 hat5 hlt5; have A5 := Lib.hid ((A4.out.alloc _).other hgr5 (fun e => by have := HOG.out _ e; omega)); have F5 := Lib.hid ((F4.out.alloc _).other hgr5 (fun e => by have := HOG.out _ e; omega)); have c5 := F5.out.cell (i := 4) rfl; have cf5 := F5.out.free; have hs5 := hgr5.size; simp at hs5; have B5 := Lib.hid (Below.grown (B4.out.alloc (by omega) _) hgr5 (by simp; omega) (fun b e => by have := HOG.out _ e; omega)); have R5 := Lib.hid ((HR4.out.alloc _).kept hgr5 ARG.out.keep); have D5 := Lib.hid ((HD4.out.alloc _).kept hgr5 ADG.out.keep); have HG5 := Lib.hid hown5; have ARG5 := Lib.hid (ARG.out.new (n := k + 1) (c := cap) (fun b hb => ((HR4.out.alloc _).lt b hb).2) hat5); have ADG5 := Lib.hid (ADG.out.new (n := k + 1) (c := cap) (fun b hb => ((HD4.out.alloc _).lt b hb).2) hat5); have hl5 := HG5.out.lt gg rfl; clear hown5 hgr5 hat5 hlt5)
        | (go_simp; (go_at_call 12; refine (specGateNew_c s _).mono ?_; rintro e w4 ⟨rfl, b4⟩; have HG4 := Lib.hid (own_up (HG.out.drew) b4); have HR4 := Lib.hid (own_up (HR.out.drew) b4); have HD4 := Lib.hid (own_up (HD.out.drew) b4); have A4 := Lib.hid (HA.out.drew.up b4); have F4 := Lib.hid (HF.out.drew.up b4); have c4' := F4.out.cell (i := 4) rfl; have cf4 := F4.out.free; have hs4 := b4.size; simp at hs4; have z4 : w.heap.size + 1 < w4.heap.size := (by omega); have B4 := Lib.hid (HB.out.drew.trans (b4.mono (by simp; omega))); clear b4; unfold gateNewV)))
      all_goals
        have c52 := F5.out.cell (i := 2) rfl
        have zF5 : w.heap.size + 1 < w5.heap.size := by omega
        go_wp2_with (first
          | (at_builtin; refine wpList_append_lies _ rfl _ _ _ rfl (w.heap.size + 2) 3 j0 _ 1 8 Try.underlying30 hj0 hy0 hy1 hy2 rfl (by omega) vR k (ints (zeros k)) rfl ((ownsRow_setCell_below R5.out (by simp) _).alloc _) ⟨w5.heap.size, 0, none⟩ 1 1 [.int .i64 0] (by rfl) (by rfl) (one_cells _ _ _ _ (by simp)) (by simp [Value.oneCell']) (by omega) (by unfold maxLen; omega) (by omega) (by simp; omega) _ rfl ?_; intro gr capr w6 hown6 hgr6 hat6 hlt6; have A6 := Lib.hid (((A5.out.far (by simp) _).alloc _).other hgr6 (fun e => by have := HOR.out _ e; omega)); have F6 := Lib.hid (((F5.out.set_ 4 (.slice (some ⟨gg, 0, none⟩) (k + 1) cap)).alloc _).other hgr6 (fun e => by have := HOR.out _ e; omega)); have c62 := F6.out.cell (i := 2) rfl; have c63 := F6.out.cell (i := 3) rfl; have cf6 := F6.out.free; have hs6 := hgr6.size; simp at hs6; have B6 := Lib.hid (Below.grown ((B5.out.setCell (by simp) _).alloc (by simp; omega) _) hgr6 (by simp; omega) (fun b e => by have := HOR.out _ e; omega)); have HG6 := Lib.hid (((ownsRow_setCell_below HG5.out (by simp) _).alloc _).kept hgr6 ARG5.out.symm.keep); have D6 := Lib.hid (((ownsRow_setCell_below D5.out (by simp) _).alloc _).kept hgr6 ARD.out.symm.keep); have HR6 := Lib.hid hown6; have ADR6 := Lib.hid (ARD.out.symm.new (n := k + 1) (c := capr) (fun b hb => (((ownsRow_setCell_below D5.out (by simp) _).alloc _).lt b hb).2) hat6); have AGR6 := Lib.hid (ARG5.out.symm.new (n := k + 1) (c := capr) (fun b hb => (((ownsRow_setCell_below HG5.out (by simp) _).alloc _).lt b hb).2) hat6); have hl6 := HR6.out.lt gr rfl; have zF6 : w.heap.size + 1 < w6.heap.size := (by omega); clear hown6 hgr6 hat6 hlt6)
            | (at_builtin; refine wpList_append_lies _ rfl _ _ _ rfl (w.heap.size + 2) 3 j0 _ 1 8 Try.underlying30 hj0 hy0 hy1 hy2 rfl (by omega) vD k (ints (zeros k)) (by rfl) ((ownsRow_setCell_below D6.out (by simp) _).alloc _) ⟨w6.heap.size, 0, none⟩ 1 1 [.int .i64 0] (by rfl) (by rfl) (one_cells _ _ _ _ (by simp)) (by simp [Value.oneCell']) (by omega) (by unfold maxLen; omega) (by omega) (by simp; omega) _ rfl ?_; intro gd capd w7 hown7 hgr7 hat7 hlt7; have A7 := Lib.hid (((A6.out.far (by simp) _).alloc _).other hgr7 (fun e => by have := HOD.out _ e; omega)); have F7 := Lib.hid (((F6.out.set_ 2 (.slice (some ⟨gr, 0, none⟩) (k + 1) capr)).alloc _).other hgr7 (fun e => by have := HOD.out _ e; omega)); have c73 := F7.out.cell (i := 3) rfl; have cf7 := F7.out.free; have hs7 := hgr7.size; simp at hs7; have B7 := Lib.hid (Below.grown ((B6.out.setCell (by simp) _).alloc (by simp; omega) _) hgr7 (by simp; omega) (fun b e => by have := HOD.out _ e; omega)); have HG7 := Lib.hid (((ownsRow_setCell_below HG6.out (by simp) _).alloc _).kept hgr7 ADG5.out.symm.keep); have HR7 := Lib.hid (((ownsRow_setCell_below HR6.out (by simp) _).alloc _).kept hgr7 ADR6.out.symm.keep); have HD7 := Lib.hid hown7; have ARD7 := Lib.hid (ADR6.out.symm.new (n := k + 1) (c := capd) (fun b hb => (((ownsRow_setCell_below HR6.out (by simp) _).alloc _).lt b hb).2) hat7); have AGD7 := Lib.hid (ADG5.out.symm.new (n := k + 1) (c := capd) (fun b hb => (((ownsRow_setCell_below HG6.out (by simp) _).alloc _).lt b hb).2) hat7); have hl7 := HD7.out.lt gd rfl; clear hown7 hgr7 hat7 hlt7))
        go_roundg gk
        case measure => omega
        case rel =>
          go_light
          have e6 := HR7.out
          have e7 := HD7.out
          rw [zeros_succ] at e6 e7
          exact ⟨k + 1, _, _, _, by omega, by go_num, A7.out.far (by simp) _, F7.out.set_ 3 _, (ownsRow_setCell_below e6 (by simp) _), (ownsRow_setCell_below e7 (by simp) _), (ownsRow_setCell_below HG7.out (by simp) _), ARD7, AGR6.out.symm, AGD7.out.symm, B7.out.setCell (by simp) _, by simp; omega⟩
    · obtain rfl : k = 3 := by omega
      obtain ⟨gG, cG, rfl⟩ : ∃ gg cap, vG = .slice (some ⟨gg, 0, none⟩) 3 cap := by
        rcases HG.out.2 with ⟨_, h0⟩ | ⟨gg, cap, cur, hv, _⟩
        · omega
        · exact ⟨gg, cap, hv⟩
      obtain ⟨gR, cR, rfl⟩ : ∃ gg cap, vR = .slice (some ⟨gg, 0, none⟩) 3 cap := by
        rcases HR.out.2 with ⟨_, h0⟩ | ⟨gg, cap, cur, hv, _⟩
        · omega
        · exact ⟨gg, cap, hv⟩
      obtain ⟨gD, cD, rfl⟩ : ∃ gg cap, vD = .slice (some ⟨gg, 0, none⟩) 3 cap := by
        rcases HD.out.2 with ⟨_, h0⟩ | ⟨gg, cap, cur, hv, _⟩
        · omega
        · exact ⟨gg, cap, hv⟩
      have c0 := HF.out.cell (i := 0) rfl
      have c1 := HF.out.cell (i := 1) rfl
      have c2 := HF.out.cell (i := 2) rfl
      have c3 := HF.out.cell (i := 3) rfl
      have c5 := HF.out.cell (i := 5) rfl
      have c6 := HF.out.cell (i := 6) rfl
      have a0 := HA.out.cell (i := 0) rfl
      have a1 := HA.out.cell (i := 1) rfl
      have a2 := HA.out.cell (i := 2) rfl
      have a3 := HA.out.cell (i := 3) rfl
      have a4 := HA.out.cell (i := 4) rfl
      have a5 := HA.out.cell (i := 5) rfl
      have a6 := HA.out.cell (i := 6) rfl
      have af := HA.out.free
      go_wp2
      refine bodyPost_ret (v := .agg #[.string s, .slice none 0 0, .slice (some ⟨gR, 0, none⟩) 3 cR, .slice (some ⟨gD, 0, none⟩) 3 cD, .slice (some ⟨gG, 0, none⟩) 3 cG, .slice none 0 0, .slice none 0 0]) (by simp [results, Try.results36, go_sem, a0, a1, a2, a3, a4, a5, a6]) rfl ?_
      go_light
      have hb := HB.out
      exact ⟨gR, cR, gD, cD, gG, cG, rfl, own_base (ownsRow_setCell_below (ownsRow_setCell_below (ownsRow_setCell_below (ownsRow_setCell_below (ownsRow_setCell_below (ownsRow_setCell_below (ownsRow_setCell_below HR.out (by simp) _) (by simp) _) (by simp) _) (by simp) _) (by simp) _) (by simp) _) (by simp) _) (by omega), own_base (ownsRow_setCell_below (ownsRow_setCell_below (ownsRow_setCell_below (ownsRow_setCell_below (ownsRow_setCell_below (ownsRow_setCell_below (ownsRow_setCell_below HD.out (by simp) _) (by simp) _) (by simp) _) (by simp) _) (by simp) _) (by simp) _) (by simp) _) (by omega), own_base (ownsRow_setCell_below (ownsRow_setCell_below (ownsRow_setCell_below (ownsRow_setCell_below (ownsRow_setCell_below (ownsRow_setCell_below (ownsRow_setCell_below HG.out (by simp) _) (by simp) _) (by simp) _) (by simp) _) (by simp) _) (by simp) _) (by simp) _) (by omega), by go_grown⟩
end Go.Proofs.Ytbijlencoilchaa
