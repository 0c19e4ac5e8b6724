/- l13Put: a word put into an ordered list, in the reference. Conditions: each contract's own. (Printed by gen_put.py from near_s.head.) -/
import Derived.Test.YtmfienlceobfeaaDoorJ29a13671f1
import Derived.Test.YtmfienlceobfeaaDoorJ088eb571f7
namespace Go.Proofs.YtmfienlceobfeaaDoor
set_option linter.unusedSimpArgs false
open Go.RowKit
set_option linter.unusedVariables false
set_option linter.unnecessarySimpa false
set_option maxRecDepth 20000
theorem own_blkN {w : World} {g t B n : Nat} {cs : List Value} (h : Blk w g t cs) (hB : B ≤ g) (hn : cs.length = n) (hm : n ≤ 1000000) : w.ownsRow B t 1 (.slice (some ⟨g, 0, none⟩) n n) n cs :=
  ⟨by omega, .inr ⟨g, n, cs.toArray, rfl, hB, h, by omega, by unfold maxLen; omega, by simp; omega, by simp [← hn]⟩⟩
theorem rdN_blk {w : World} {g t n : Nat} {cs : List Value} (h : Blk w g t cs) (hn : cs.length = n) : Rd w w.heap.size 1 (some ⟨g, 0, none⟩) n cs :=
  ⟨by omega, fun _ => ⟨g, 0, rfl, h.lt, fun j u hu => by rw [Nat.zero_add]; exact h.cell hu⟩⟩
theorem ownN_le {w : World} {base e n c : Nat} {A : Option Addr} {xs : List Value} (h : w.ownsRow base e 1 (.slice A n c) n xs) : n ≤ c := by
  rcases h.2 with ⟨_, h0⟩ | ⟨g, cap, cur, hv, hb, hh, h1, _⟩
  · omega
  · injection hv with a b c
    omega
theorem rdN_take {w : World} {B b off n k : Nat} {xs : List Int} (h : Rd w B 1 (some ⟨b, off, none⟩) n (ints xs)) (hk : k ≤ n) : Rd w B 1 (some ⟨b, off, none⟩) k (ints (xs.take k)) := by
  have hl := h.len1
  rw [ints_len] at hl
  refine ⟨by rw [ints_len, List.length_take]; omega, fun hn => ?_⟩
  obtain ⟨b', off', e, hb, hc⟩ := h.2 (by omega)
  refine ⟨b', off', e, hb, fun j u hu => hc j u ?_⟩
  unfold ints at hu ⊢
  rw [List.map_take, List.getElem?_take] at hu
  split at hu
  · exact hu
  · cases hu
theorem rdN_drop {w : World} {B b off n k : Nat} {A' : Option Addr} {xs : List Int} (h : Rd w B 1 (some ⟨b, off, none⟩) n (ints xs)) (hk : k ≤ n) (hA : k < n → A' = some ⟨b, off + k, none⟩) : Rd w B 1 A' (n - k) (ints (xs.drop k)) := by
  have hl := h.len1
  rw [ints_len] at hl
  refine ⟨by rw [ints_len, List.length_drop]; omega, fun hn => ?_⟩
  obtain ⟨b', off', e, hb, hc⟩ := h.2 (by omega)
  injection e with e
  injection e with e1 e2
  subst e1 e2
  refine ⟨b, off + k, hA (by omega), hb, fun j u hu => ?_⟩
  unfold ints at hu hc
  rw [List.map_drop, List.getElem?_drop] at hu
  have := hc _ u hu
  rwa [← Nat.add_assoc] at this
theorem rdN_cell {w : World} {B b off n j : Nat} {xs : List Int} {x : Int} (h : Rd w B 1 (some ⟨b, off, none⟩) n (ints xs)) (hx : xs[j]? = some x) : w.cell? ⟨b, off + j, none⟩ = some (.int .i64 x) ∧ b < B := by
  have hl := h.len1
  rw [ints_len] at hl
  have hj : j < xs.length := (List.getElem?_eq_some_iff.1 hx).1
  obtain ⟨b', off', e, hb, hc⟩ := h.2 (by omega)
  injection e with e
  injection e with e1 e2
  subst e1 e2
  exact ⟨hc j _ (by unfold ints; rw [List.getElem?_map, hx]; rfl), hb⟩
theorem putI_no {l : List Int} {n : Int} (h : ¬ wordB n = true) : putI l n = l := by unfold putI; rw [if_neg h]
theorem put_split : ∀ (l : List Int) (n : Int) (k : Nat), k ≤ l.length → (∀ x ∈ l.take k, x < n) → (∀ x, l[k]? = some x → ¬ x < n) → l.takeWhile (fun x => decide (x < n)) = l.take k ∧ l.dropWhile (fun x => decide (x < n)) = l.drop k
  | [], n, k, hk, h1, h2 => by simp
  | a :: l, n, 0, hk, h1, h2 => by
    have := h2 a rfl
    simp [this]
  | a :: l, n, k + 1, hk, h1, h2 => by
    have ha := h1 a (by simp)
    obtain ⟨e1, e2⟩ := put_split l n k (by simpa using hk) (fun x hx => h1 x (by simp [hx])) (fun x hx => h2 x (by simpa using hx))
    simp [ha, e1, e2]
theorem putI_has {l : List Int} {n : Int} {k : Nat} (hk : k ≤ l.length) (h1 : ∀ x ∈ l.take k, x < n) (h2 : l[k]? = some n) : putI l n = l := by
  unfold putI
  split
  · obtain ⟨e1, e2⟩ := put_split l n k hk h1 (fun x hx => by rw [h2] at hx; injection hx with hx; omega)
    rw [e2, if_pos (by rw [List.head?_drop, h2])]
  · rfl
theorem putI_new {l : List Int} {n : Int} {k : Nat} (hw : wordB n = true) (hk : k ≤ l.length) (h1 : ∀ x ∈ l.take k, x < n) (h2 : ∀ x, l[k]? = some x → ¬ x < n ∧ ¬ x = n) : putI l n = l.take k ++ n :: l.drop k := by
  unfold putI
  obtain ⟨e1, e2⟩ := put_split l n k hk h1 (fun x hx => (h2 x hx).1)
  rw [if_pos hw, e1, e2, if_neg]
  rw [List.head?_drop]
  exact fun e => (h2 n e).2 rfl
/-- A list of words in memory from block lo on. -/
def RetWords (lo t : Nat) (xs : List Int) (w : World) (e : Ending) (w' : World) : Prop :=
  ∃ A c, e = .returned (.slice A xs.length c) ∧ w'.ownsRow lo t 1 (.slice A xs.length c) xs.length (ints xs) ∧ Below w.heap.size w w'
set_option maxHeartbeats 8000000 in
set_option maxRecDepth 100000 in
theorem l13Put_c (b off m c lo : Nat) (xs : List Int) (n : Int) (w : World) (ho : w.ownsRow lo 3 1 (.slice (some ⟨b, off, none⟩) m c) m (ints xs)) (hlo : lo ≤ w.heap.size) (hm : m ≤ 1000) :
    Calls Tryd.prog 37 #[.slice (some ⟨b, off, none⟩) m c, .int .i64 n] w (RetWords lo 3 (putI xs n) w) := by
  obtain ⟨i0, hi0, hz0, hz1, hz2⟩ := info_parts info_int
  have hr := Rd.of_own ho
  have hc := ownN_le ho
  have hl := hr.len1
  rw [ints_len] at hl
  have HR := Lib.hid hr
  have HO := Lib.hid ho
  clear hr ho
  unfold RetWords
  by_cases hw : wordB n = true
  · have hw2 : decide (0 ≤ n ∧ n ≤ 4294967295) = true := hw
    have HW := Lib.hid hw
    go_enter Tryd.func37, Tryd.ntmps37
    go_wp2_with (go_at_call 18; refine (l1In_c _ _ _ _).mono ?_; rintro e w1 ⟨rfl, rfl⟩; rw [hw2])
    clear hw hw2
    go_loopg [5] m (fun gk v wr => ∃ k : Nat, gk + k = m ∧ v = .int .i64 k ∧ Hid (∀ x ∈ xs.take k, x < n) ∧ Hid (Below w.heap.size w wr))
    case atStart => exact ⟨0, by omega, rfl, Lib.hid (by simp), Lib.hid (Below.refl _ _)⟩
    case round =>
      obtain ⟨k, hgk, rfl, HK, HB⟩ := hrel
      have hbs := HB.out.size
      obtain ⟨AR2, hAR2⟩ : ∃ A2 : Option Addr, A2 = if c = k then some ⟨b, off, none⟩ else some ⟨b, off + k, none⟩ := ⟨_, rfl⟩
      have HT := Lib.hid (rdN_take HR.out (show k ≤ m by omega))
      have HD : Hid (Rd w w.heap.size 1 AR2 (m - k) (ints (xs.drop k))) := Lib.hid (rdN_drop HR.out (by omega) (fun hl => by rw [hAR2, if_neg (by omega)]))
      have HAR := Lib.hid hAR2
      clear hAR2
      by_cases hk : gk = 0
      · subst hk
        have hkm : k = m := by omega
        subst hkm
        have HD : Hid (Rd w w.heap.size 1 AR2 0 (ints (xs.drop k))) := Lib.hid (by simpa using HD.out)
        have HP := Lib.hid (putI_new HW.out (by omega) HK.out (fun x hx => by rw [List.getElem?_eq_none (by omega)] at hx; cases hx))
        go_upto_region 8 with fail
        refine wp_region_held_drew (S := fun _ => True) (by kernel_rfl) ?_ (fun hHeld => ?_)
        · trivial
        refine wpAnyH_take (i := 1) (oi := _) (v := ?_) rfl (by kernel_rfl) (by kernel_rfl) (by kernel_rfl) (fun _ _ _ h => h) (Or.inl ⟨by rfl, ?_⟩) (by assumption) ?_
        rotate_left
        · (intro w hSw; (try dsimp only at hSw); go_simp; (try with_reducible rfl))
        (try simp only [Act.put, List.getElem_toArray, List.getElem_cons_zero, List.getElem_cons_succ, List.setIfInBounds_toArray, List.set_cons_zero, List.set_cons_succ])
        refine wpAnyH_take (i := 2) (oi := _) (v := ?_) rfl (by kernel_rfl) (by kernel_rfl) (by kernel_rfl) (fun _ _ _ h => h) (Or.inl ⟨by rfl, ?_⟩) (by assumption) ?_
        rotate_left
        · (intro w hSw; (try dsimp only at hSw); go_simp; (try with_reducible rfl))
        (try simp only [Act.put, List.getElem_toArray, List.getElem_cons_zero, List.getElem_cons_succ, List.setIfInBounds_toArray, List.set_cons_zero, List.set_cons_succ])
        refine wpAnyH_take (i := 3) (oi := _) (v := ?_) rfl (by kernel_rfl) (by kernel_rfl) (by kernel_rfl) (fun _ _ _ h => h) (Or.inl ⟨by rfl, ?_⟩) (by assumption) ?_
        rotate_left
        · (intro w hSw; (try dsimp only at hSw); go_simp; (try with_reducible rfl))
        (try simp only [Act.put, List.getElem_toArray, List.getElem_cons_zero, List.getElem_cons_succ, List.setIfInBounds_toArray, List.set_cons_zero, List.set_cons_succ])
        refine wpAnyH_take (i := 5) (oi := _) (v := ?_) rfl (by kernel_rfl) (by kernel_rfl) (by kernel_rfl) (fun _ _ _ h => h) (Or.inl ⟨by rfl, ?_⟩) (by assumption) ?_
        rotate_left
        · (intro w hSw; (try dsimp only at hSw); go_simp; (try with_reducible rfl))
        (try simp only [Act.put, List.getElem_toArray, List.getElem_cons_zero, List.getElem_cons_succ, List.setIfInBounds_toArray, List.set_cons_zero, List.set_cons_succ])
        refine wpAnyH_take (i := 8) (oi := _) (v := ?_) rfl (by kernel_rfl) (by kernel_rfl) (by kernel_rfl) (fun _ _ _ h => h) (Or.inl ⟨by rfl, ?_⟩) (by assumption) ?_
        rotate_left
        · (intro w hSw; (try dsimp only at hSw); go_simp; (try with_reducible rfl))
        (try simp only [Act.put, List.getElem_toArray, List.getElem_cons_zero, List.getElem_cons_succ, List.setIfInBounds_toArray, List.set_cons_zero, List.set_cons_succ])
        refine wpAnyH_take (i := 9) (oi := _) (v := ?_) rfl (by kernel_rfl) (by kernel_rfl) (by kernel_rfl) (fun _ _ _ h => h) (Or.inl ⟨by rfl, ?_⟩) (by assumption) ?_
        rotate_left
        · (intro w hSw; (try dsimp only at hSw); go_simp; (try with_reducible rfl))
        (try simp only [Act.put, List.getElem_toArray, List.getElem_cons_zero, List.getElem_cons_succ, List.setIfInBounds_toArray, List.set_cons_zero, List.set_cons_succ])
        refine wpAnyH_take (i := 10) (oi := _) (v := ?_) rfl (by kernel_rfl) (by kernel_rfl) (by kernel_rfl) (fun _ _ _ h => h) (Or.inl ⟨by rfl, ?_⟩) (by assumption) ?_
        rotate_left
        · (intro w hSw; (try dsimp only at hSw); go_simp; rw [← HAR.out]; (try with_reducible rfl))
        (try simp only [Act.put, List.getElem_toArray, List.getElem_cons_zero, List.getElem_cons_succ, List.setIfInBounds_toArray, List.set_cons_zero, List.set_cons_succ])
        refine wpAnyH_ready (rs := [0, 6]) (by kernel_rfl) (by simp) ?_
        refine AllReadyH.cons (o := _) rfl (fun K hK => ?_) ?_
        · go_simp
          have BE : Hid (Blk ((wr.drew).alloc (.cells #[] 3)) (wr.heap.size) 3 []) := Lib.hid (Blk.at_new _ 3 _ [] (by simp))
          refine hK.out _ _ ?_ (fun hHeld => ?_)
          · trivial
          clear hK K
          (try simp only [Act.put, List.getElem_toArray, List.getElem_cons_zero, List.getElem_cons_succ, List.setIfInBounds_toArray, List.set_cons_zero, List.set_cons_succ])
          refine wpAnyH_ready (rs := [4, 6]) (by kernel_rfl) (by simp) ?_
          refine AllReadyH.cons (o := _) rfl (fun K hK => ?_) ?_
          · refine step_append_rd _ (by rfl) _ _ _ (by rfl) w.heap.size 3 i0 _ 1 8 Tryd.underlying31 hi0 hz0 hz1 hz2 rfl (by omega) (.slice (some ⟨wr.heap.size, 0, none⟩) 0 0) 0 ([]) (by rfl) (own_blkN BE.out (by omega) rfl (by omega)) _ (some ⟨b, off, none⟩) k c (ints (xs.take k)) (by rfl) (HT.out.below (below_via HB.out (by go_grown))) (one_intsN _) (by unfold maxLen; omega) (by omega) (by (try simp); omega) ?_
            intro A4 c4 w4 ho4 hg4 ha4
            (try simp only [Nat.zero_add, List.nil_append] at ho4 ⊢)
            have hs4 := hg4.size
            (try simp at hs4)
            have O4 := Lib.hid ho4
            have L4 : Hid (Below w.heap.size w w4) := Lib.hid ((show Below w.heap.size w _ from below_via HB.out (by go_grown)).grown hg4 (by (try simp); omega) (fun b e => by have e2 := ob_of e; omega))
            clear ho4 hg4 ha4
            refine hK.out _ _ ?_ (fun hHeld => ?_)
            · trivial
            clear hK K
            (try simp only [Act.put, List.getElem_toArray, List.getElem_cons_zero, List.getElem_cons_succ, List.setIfInBounds_toArray, List.set_cons_zero, List.set_cons_succ])
            refine wpAnyH_ready (rs := [6]) (by kernel_rfl) (by simp) ?_
            refine AllReadyH.cons (o := _) rfl (fun K hK => ?_) AllReadyH.nil
            go_simp
            have BN : Hid (Blk (w4.alloc (.cells #[.int .i64 n] 3)) (w4.heap.size) 3 [.int .i64 n]) := Lib.hid (Blk.at_new _ 3 _ [.int .i64 n] (by simp))
            have O4 := Lib.hid (own_up O4.out (w' := w4.alloc (.cells #[.int .i64 n] 3)) (by go_grown))
            have L4 : Hid (Below w.heap.size w (w4.alloc (.cells #[.int .i64 n] 3))) := Lib.hid (below_via L4.out (by go_grown))
            refine hK.out _ _ ?_ (fun hHeld => ?_)
            · trivial
            clear hK K
            (try simp only [Act.put, List.getElem_toArray, List.getElem_cons_zero, List.getElem_cons_succ, List.setIfInBounds_toArray, List.set_cons_zero, List.set_cons_succ])
            refine wpAnyH_ready (rs := [7]) (by kernel_rfl) (by simp) ?_
            refine AllReadyH.cons (o := _) rfl (fun K hK => ?_) AllReadyH.nil
            refine step_append_rd _ (by rfl) _ _ _ (by rfl) w.heap.size 3 i0 _ 1 8 Tryd.underlying31 hi0 hz0 hz1 hz2 rfl (by omega) (.slice (A4) k c4) k (ints (xs.take k)) (by rfl) (O4.out) _ (some ⟨w4.heap.size, 0, none⟩) 1 1 ([.int .i64 n]) (by rfl) (rdN_blk BN.out rfl) (one_intsN [n]) (by unfold maxLen; omega) (by omega) (by (try simp); omega) ?_
            intro A7 c7 w7 ho7 hg7 ha7
            have hs7 := hg7.size
            (try simp at hs7)
            have O7 := Lib.hid ho7
            have L7 : Hid (Below w.heap.size w w7) := Lib.hid (L4.out.grown hg7 (by (try simp); omega) (fun b e => (O4.out.lt b e).1))
            clear ho7 hg7 ha7
            refine hK.out _ _ ?_ (fun hHeld => ?_)
            · trivial
            clear hK K
            (try simp only [Act.put, List.getElem_toArray, List.getElem_cons_zero, List.getElem_cons_succ, List.setIfInBounds_toArray, List.set_cons_zero, List.set_cons_succ])
            refine wpAnyH_ready (rs := [11]) (by kernel_rfl) (by simp) ?_
            refine AllReadyH.cons (o := _) rfl (fun K hK => ?_) AllReadyH.nil
            refine step_append_rd _ (by rfl) _ _ _ (by rfl) w.heap.size 3 i0 _ 1 8 Tryd.underlying31 hi0 hz0 hz1 hz2 rfl (by omega) (.slice (A7) (k + 1) c7) (k + 1) (ints (xs.take k) ++ [.int .i64 n]) (by rfl) (O7.out) _ (AR2) 0 (c - k) (ints (xs.drop k)) (by rfl) (HD.out.below L7.out) (one_intsN _) (by unfold maxLen; omega) (by omega) (by (try simp); omega) ?_
            intro A11 c11 w11 ho11 hg11 ha11
            have O11 := Lib.hid ho11
            have L11 : Hid (Below w.heap.size w w11) := Lib.hid (L7.out.grown hg11 (by (try simp); omega) (fun b e => (O7.out.lt b e).1))
            clear ho11 hg11 ha11
            refine hK.out _ _ ?_ (fun hHeld => ?_)
            · trivial
            clear hK K
            (try simp only [Act.put, List.getElem_toArray, List.getElem_cons_zero, List.getElem_cons_succ, List.setIfInBounds_toArray, List.set_cons_zero, List.set_cons_succ])
            refine wpAnyH_take (i := 12) (oi := _) (v := ?_) rfl (by kernel_rfl) (by kernel_rfl) (by kernel_rfl) (fun _ _ _ h => h) (Or.inl ⟨by rfl, ?_⟩) (by assumption) ?_
            rotate_left
            · (intro w hSw; (try dsimp only at hSw); go_simp; (try with_reducible rfl))
            (try simp only [Act.put, List.getElem_toArray, List.getElem_cons_zero, List.getElem_cons_succ, List.setIfInBounds_toArray, List.set_cons_zero, List.set_cons_succ])
            refine wpAnyH_done (by kernel_rfl) ?_ _
            go_wp2_with fail
            go_returns
            have hN : k + 1 + 0 = (putI xs n).length := by rw [HP.out]; simp; omega
            have o11 := O11.out
            rw [show ints (xs.take k) ++ [.int .i64 n] ++ ints (xs.drop k) = ints (putI xs n) from by rw [HP.out]; simp [ints]] at o11
            rw [← hN]
            exact ⟨A11, c11, rfl, own_base o11 hlo, L11.out⟩
          refine AllReadyH.cons (o := _) rfl (fun K hK => ?_) ?_
          · go_simp
            have BE := Lib.hid (BE.out.alloc (.cells #[.int .i64 n] 3))
            have BN : Hid (Blk (((wr.drew).alloc (.cells #[] 3)).alloc (.cells #[.int .i64 n] 3)) (wr.heap.size + 1) 3 [.int .i64 n]) := Lib.hid (Blk.at_new _ 3 _ [.int .i64 n] (by simp))
            refine hK.out _ _ ?_ (fun hHeld => ?_)
            · trivial
            clear hK K
            (try simp only [Act.put, List.getElem_toArray, List.getElem_cons_zero, List.getElem_cons_succ, List.setIfInBounds_toArray, List.set_cons_zero, List.set_cons_succ])
            refine wpAnyH_ready (rs := [4]) (by kernel_rfl) (by simp) ?_
            refine AllReadyH.cons (o := _) rfl (fun K hK => ?_) AllReadyH.nil
            refine step_append_rd _ (by rfl) _ _ _ (by rfl) w.heap.size 3 i0 _ 1 8 Tryd.underlying31 hi0 hz0 hz1 hz2 rfl (by omega) (.slice (some ⟨wr.heap.size, 0, none⟩) 0 0) 0 ([]) (by rfl) (own_blkN BE.out (by omega) rfl (by omega)) _ (some ⟨b, off, none⟩) k c (ints (xs.take k)) (by rfl) (HT.out.below (below_via HB.out (by go_grown))) (one_intsN _) (by unfold maxLen; omega) (by omega) (by (try simp); omega) ?_
            intro A4 c4 w4 ho4 hg4 ha4
            (try simp only [Nat.zero_add, List.nil_append] at ho4 ⊢)
            have hs4 := hg4.size
            (try simp at hs4)
            have O4 := Lib.hid ho4
            have L4 : Hid (Below w.heap.size w w4) := Lib.hid ((show Below w.heap.size w _ from below_via HB.out (by go_grown)).grown hg4 (by (try simp); omega) (fun b e => by have e2 := ob_of e; omega))
            have BN := Lib.hid (BN.out.gn hg4 (fun e => by have e2 := ob_of e; omega))
            clear ho4 hg4 ha4
            refine hK.out _ _ ?_ (fun hHeld => ?_)
            · trivial
            clear hK K
            (try simp only [Act.put, List.getElem_toArray, List.getElem_cons_zero, List.getElem_cons_succ, List.setIfInBounds_toArray, List.set_cons_zero, List.set_cons_succ])
            refine wpAnyH_ready (rs := [7]) (by kernel_rfl) (by simp) ?_
            refine AllReadyH.cons (o := _) rfl (fun K hK => ?_) AllReadyH.nil
            refine step_append_rd _ (by rfl) _ _ _ (by rfl) w.heap.size 3 i0 _ 1 8 Tryd.underlying31 hi0 hz0 hz1 hz2 rfl (by omega) (.slice (A4) k c4) k (ints (xs.take k)) (by rfl) (O4.out) _ (some ⟨wr.heap.size + 1, 0, none⟩) 1 1 ([.int .i64 n]) (by rfl) (rdN_blk BN.out rfl) (one_intsN [n]) (by unfold maxLen; omega) (by omega) (by (try simp); omega) ?_
            intro A7 c7 w7 ho7 hg7 ha7
            have hs7 := hg7.size
            (try simp at hs7)
            have O7 := Lib.hid ho7
            have L7 : Hid (Below w.heap.size w w7) := Lib.hid (L4.out.grown hg7 (by (try simp); omega) (fun b e => (O4.out.lt b e).1))
            clear ho7 hg7 ha7
            refine hK.out _ _ ?_ (fun hHeld => ?_)
            · trivial
            clear hK K
            (try simp only [Act.put, List.getElem_toArray, List.getElem_cons_zero, List.getElem_cons_succ, List.setIfInBounds_toArray, List.set_cons_zero, List.set_cons_succ])
            refine wpAnyH_ready (rs := [11]) (by kernel_rfl) (by simp) ?_
            refine AllReadyH.cons (o := _) rfl (fun K hK => ?_) AllReadyH.nil
            refine step_append_rd _ (by rfl) _ _ _ (by rfl) w.heap.size 3 i0 _ 1 8 Tryd.underlying31 hi0 hz0 hz1 hz2 rfl (by omega) (.slice (A7) (k + 1) c7) (k + 1) (ints (xs.take k) ++ [.int .i64 n]) (by rfl) (O7.out) _ (AR2) 0 (c - k) (ints (xs.drop k)) (by rfl) (HD.out.below L7.out) (one_intsN _) (by unfold maxLen; omega) (by omega) (by (try simp); omega) ?_
            intro A11 c11 w11 ho11 hg11 ha11
            have O11 := Lib.hid ho11
            have L11 : Hid (Below w.heap.size w w11) := Lib.hid (L7.out.grown hg11 (by (try simp); omega) (fun b e => (O7.out.lt b e).1))
            clear ho11 hg11 ha11
            refine hK.out _ _ ?_ (fun hHeld => ?_)
            · trivial
            clear hK K
            (try simp only [Act.put, List.getElem_toArray, List.getElem_cons_zero, List.getElem_cons_succ, List.setIfInBounds_toArray, List.set_cons_zero, List.set_cons_succ])
            refine wpAnyH_take (i := 12) (oi := _) (v := ?_) rfl (by kernel_rfl) (by kernel_rfl) (by kernel_rfl) (fun _ _ _ h => h) (Or.inl ⟨by rfl, ?_⟩) (by assumption) ?_
            rotate_left
            · (intro w hSw; (try dsimp only at hSw); go_simp; (try with_reducible rfl))
            (try simp only [Act.put, List.getElem_toArray, List.getElem_cons_zero, List.getElem_cons_succ, List.setIfInBounds_toArray, List.set_cons_zero, List.set_cons_succ])
            refine wpAnyH_done (by kernel_rfl) ?_ _
            go_wp2_with fail
            go_returns
            have hN : k + 1 + 0 = (putI xs n).length := by rw [HP.out]; simp; omega
            have o11 := O11.out
            rw [show ints (xs.take k) ++ [.int .i64 n] ++ ints (xs.drop k) = ints (putI xs n) from by rw [HP.out]; simp [ints]] at o11
            rw [← hN]
            exact ⟨A11, c11, rfl, own_base o11 hlo, L11.out⟩
          exact AllReadyH.nil
        refine AllReadyH.cons (o := _) rfl (fun K hK => ?_) ?_
        · go_simp
          have BN : Hid (Blk ((wr.drew).alloc (.cells #[.int .i64 n] 3)) (wr.heap.size) 3 [.int .i64 n]) := Lib.hid (Blk.at_new _ 3 _ [.int .i64 n] (by simp))
          refine hK.out _ _ ?_ (fun hHeld => ?_)
          · trivial
          clear hK K
          (try simp only [Act.put, List.getElem_toArray, List.getElem_cons_zero, List.getElem_cons_succ, List.setIfInBounds_toArray, List.set_cons_zero, List.set_cons_succ])
          refine wpAnyH_ready (rs := [0]) (by kernel_rfl) (by simp) ?_
          refine AllReadyH.cons (o := _) rfl (fun K hK => ?_) AllReadyH.nil
          go_simp
          have BE : Hid (Blk (((wr.drew).alloc (.cells #[.int .i64 n] 3)).alloc (.cells #[] 3)) (wr.heap.size + 1) 3 []) := Lib.hid (Blk.at_new _ 3 _ [] (by simp))
          have BN := Lib.hid (BN.out.alloc (.cells #[] 3))
          refine hK.out _ _ ?_ (fun hHeld => ?_)
          · trivial
          clear hK K
          (try simp only [Act.put, List.getElem_toArray, List.getElem_cons_zero, List.getElem_cons_succ, List.setIfInBounds_toArray, List.set_cons_zero, List.set_cons_succ])
          refine wpAnyH_ready (rs := [4]) (by kernel_rfl) (by simp) ?_
          refine AllReadyH.cons (o := _) rfl (fun K hK => ?_) AllReadyH.nil
          refine step_append_rd _ (by rfl) _ _ _ (by rfl) w.heap.size 3 i0 _ 1 8 Tryd.underlying31 hi0 hz0 hz1 hz2 rfl (by omega) (.slice (some ⟨wr.heap.size + 1, 0, none⟩) 0 0) 0 ([]) (by rfl) (own_blkN BE.out (by omega) rfl (by omega)) _ (some ⟨b, off, none⟩) k c (ints (xs.take k)) (by rfl) (HT.out.below (below_via HB.out (by go_grown))) (one_intsN _) (by unfold maxLen; omega) (by omega) (by (try simp); omega) ?_
          intro A4 c4 w4 ho4 hg4 ha4
          (try simp only [Nat.zero_add, List.nil_append] at ho4 ⊢)
          have hs4 := hg4.size
          (try simp at hs4)
          have O4 := Lib.hid ho4
          have L4 : Hid (Below w.heap.size w w4) := Lib.hid ((show Below w.heap.size w _ from below_via HB.out (by go_grown)).grown hg4 (by (try simp); omega) (fun b e => by have e2 := ob_of e; omega))
          have BN := Lib.hid (BN.out.gn hg4 (fun e => by have e2 := ob_of e; omega))
          clear ho4 hg4 ha4
          refine hK.out _ _ ?_ (fun hHeld => ?_)
          · trivial
          clear hK K
          (try simp only [Act.put, List.getElem_toArray, List.getElem_cons_zero, List.getElem_cons_succ, List.setIfInBounds_toArray, List.set_cons_zero, List.set_cons_succ])
          refine wpAnyH_ready (rs := [7]) (by kernel_rfl) (by simp) ?_
          refine AllReadyH.cons (o := _) rfl (fun K hK => ?_) AllReadyH.nil
          refine step_append_rd _ (by rfl) _ _ _ (by rfl) w.heap.size 3 i0 _ 1 8 Tryd.underlying31 hi0 hz0 hz1 hz2 rfl (by omega) (.slice (A4) k c4) k (ints (xs.take k)) (by rfl) (O4.out) _ (some ⟨wr.heap.size, 0, none⟩) 1 1 ([.int .i64 n]) (by rfl) (rdN_blk BN.out rfl) (one_intsN [n]) (by unfold maxLen; omega) (by omega) (by (try simp); omega) ?_
          intro A7 c7 w7 ho7 hg7 ha7
          have hs7 := hg7.size
          (try simp at hs7)
          have O7 := Lib.hid ho7
          have L7 : Hid (Below w.heap.size w w7) := Lib.hid (L4.out.grown hg7 (by (try simp); omega) (fun b e => (O4.out.lt b e).1))
          clear ho7 hg7 ha7
          refine hK.out _ _ ?_ (fun hHeld => ?_)
          · trivial
          clear hK K
          (try simp only [Act.put, List.getElem_toArray, List.getElem_cons_zero, List.getElem_cons_succ, List.setIfInBounds_toArray, List.set_cons_zero, List.set_cons_succ])
          refine wpAnyH_ready (rs := [11]) (by kernel_rfl) (by simp) ?_
          refine AllReadyH.cons (o := _) rfl (fun K hK => ?_) AllReadyH.nil
          refine step_append_rd _ (by rfl) _ _ _ (by rfl) w.heap.size 3 i0 _ 1 8 Tryd.underlying31 hi0 hz0 hz1 hz2 rfl (by omega) (.slice (A7) (k + 1) c7) (k + 1) (ints (xs.take k) ++ [.int .i64 n]) (by rfl) (O7.out) _ (AR2) 0 (c - k) (ints (xs.drop k)) (by rfl) (HD.out.below L7.out) (one_intsN _) (by unfold maxLen; omega) (by omega) (by (try simp); omega) ?_
          intro A11 c11 w11 ho11 hg11 ha11
          have O11 := Lib.hid ho11
          have L11 : Hid (Below w.heap.size w w11) := Lib.hid (L7.out.grown hg11 (by (try simp); omega) (fun b e => (O7.out.lt b e).1))
          clear ho11 hg11 ha11
          refine hK.out _ _ ?_ (fun hHeld => ?_)
          · trivial
          clear hK K
          (try simp only [Act.put, List.getElem_toArray, List.getElem_cons_zero, List.getElem_cons_succ, List.setIfInBounds_toArray, List.set_cons_zero, List.set_cons_succ])
          refine wpAnyH_take (i := 12) (oi := _) (v := ?_) rfl (by kernel_rfl) (by kernel_rfl) (by kernel_rfl) (fun _ _ _ h => h) (Or.inl ⟨by rfl, ?_⟩) (by assumption) ?_
          rotate_left
          · (intro w hSw; (try dsimp only at hSw); go_simp; (try with_reducible rfl))
          (try simp only [Act.put, List.getElem_toArray, List.getElem_cons_zero, List.getElem_cons_succ, List.setIfInBounds_toArray, List.set_cons_zero, List.set_cons_succ])
          refine wpAnyH_done (by kernel_rfl) ?_ _
          go_wp2_with fail
          go_returns
          have hN : k + 1 + 0 = (putI xs n).length := by rw [HP.out]; simp; omega
          have o11 := O11.out
          rw [show ints (xs.take k) ++ [.int .i64 n] ++ ints (xs.drop k) = ints (putI xs n) from by rw [HP.out]; simp [ints]] at o11
          rw [← hN]
          exact ⟨A11, c11, rfl, own_base o11 hlo, L11.out⟩
        exact AllReadyH.nil
      · obtain ⟨gk, rfl⟩ : ∃ x, gk = x + 1 := ⟨gk - 1, by omega⟩
        obtain ⟨x, hx⟩ : ∃ x, xs[k]? = some x := ⟨xs[k]'(by omega), List.getElem?_eq_getElem (by omega)⟩
        obtain ⟨ck, hb⟩ := rdN_cell (HR.out.below HB.out) hx
        have hb2 : b < wr.heap.size := by omega
        by_cases hxn : x < n
        · have f1 : decide (x < n) = true := by simpa using hxn
          have HK2 : Hid (∀ x ∈ xs.take (k + 1), x < n) := Lib.hid (by
            intro y hy
            rw [List.take_add_one, hx, List.mem_append] at hy
            rcases hy with hy | hy
            · exact HK.out y hy
            · simp at hy; omega)
          clear hxn
          go_wp2_with fail
          go_roundg gk
          case measure => omega
          case rel => exact ⟨k + 1, by omega, by go_num, HK2, HB⟩
        · have f1 : decide (x < n) = false := by simpa using hxn
          by_cases hxe : x = n
          · subst hxe
            have HP := Lib.hid (putI_has (by omega) HK.out hx)
            have f2 : (x == x) = true := by simp
            clear hxn
            go_wp2_with fail
            go_returns
            rw [HP.out, hl]
            exact ⟨some ⟨b, off, none⟩, c, rfl, own_up HO.out HB.out, HB.out⟩
          · have f2 : (x == n) = false := by simpa using hxe
            have HP := Lib.hid (putI_new HW.out (by omega) HK.out (fun y hy => by rw [hx] at hy; injection hy with hy; subst hy; exact ⟨hxn, hxe⟩))
            clear hxn hxe hx
            have hkm : k < m := by omega
            have hkc : k ≤ c := by omega
            have hkm' : k ≤ m := by omega
            clear hgk hk
            go_upto_region 8 with fail
            refine wp_region_held_drew (S := fun _ => True) (by kernel_rfl) ?_ (fun hHeld => ?_)
            · trivial
            refine wpAnyH_take (i := 1) (oi := _) (v := ?_) rfl (by kernel_rfl) (by kernel_rfl) (by kernel_rfl) (fun _ _ _ h => h) (Or.inl ⟨by rfl, ?_⟩) (by assumption) ?_
            rotate_left
            · (intro w hSw; (try dsimp only at hSw); go_simp; (try with_reducible rfl))
            (try simp only [Act.put, List.getElem_toArray, List.getElem_cons_zero, List.getElem_cons_succ, List.setIfInBounds_toArray, List.set_cons_zero, List.set_cons_succ])
            refine wpAnyH_take (i := 2) (oi := _) (v := ?_) rfl (by kernel_rfl) (by kernel_rfl) (by kernel_rfl) (fun _ _ _ h => h) (Or.inl ⟨by rfl, ?_⟩) (by assumption) ?_
            rotate_left
            · (intro w hSw; (try dsimp only at hSw); go_simp; (try with_reducible rfl))
            (try simp only [Act.put, List.getElem_toArray, List.getElem_cons_zero, List.getElem_cons_succ, List.setIfInBounds_toArray, List.set_cons_zero, List.set_cons_succ])
            refine wpAnyH_take (i := 3) (oi := _) (v := ?_) rfl (by kernel_rfl) (by kernel_rfl) (by kernel_rfl) (fun _ _ _ h => h) (Or.inl ⟨by rfl, ?_⟩) (by assumption) ?_
            rotate_left
            · (intro w hSw; (try dsimp only at hSw); go_simp; (try with_reducible rfl))
            (try simp only [Act.put, List.getElem_toArray, List.getElem_cons_zero, List.getElem_cons_succ, List.setIfInBounds_toArray, List.set_cons_zero, List.set_cons_succ])
            refine wpAnyH_take (i := 5) (oi := _) (v := ?_) rfl (by kernel_rfl) (by kernel_rfl) (by kernel_rfl) (fun _ _ _ h => h) (Or.inl ⟨by rfl, ?_⟩) (by assumption) ?_
            rotate_left
            · (intro w hSw; (try dsimp only at hSw); go_simp; (try with_reducible rfl))
            (try simp only [Act.put, List.getElem_toArray, List.getElem_cons_zero, List.getElem_cons_succ, List.setIfInBounds_toArray, List.set_cons_zero, List.set_cons_succ])
            refine wpAnyH_take (i := 8) (oi := _) (v := ?_) rfl (by kernel_rfl) (by kernel_rfl) (by kernel_rfl) (fun _ _ _ h => h) (Or.inl ⟨by rfl, ?_⟩) (by assumption) ?_
            rotate_left
            · (intro w hSw; (try dsimp only at hSw); go_simp; (try with_reducible rfl))
            (try simp only [Act.put, List.getElem_toArray, List.getElem_cons_zero, List.getElem_cons_succ, List.setIfInBounds_toArray, List.set_cons_zero, List.set_cons_succ])
            refine wpAnyH_take (i := 9) (oi := _) (v := ?_) rfl (by kernel_rfl) (by kernel_rfl) (by kernel_rfl) (fun _ _ _ h => h) (Or.inl ⟨by rfl, ?_⟩) (by assumption) ?_
            rotate_left
            · (intro w hSw; (try dsimp only at hSw); go_simp; (try with_reducible rfl))
            (try simp only [Act.put, List.getElem_toArray, List.getElem_cons_zero, List.getElem_cons_succ, List.setIfInBounds_toArray, List.set_cons_zero, List.set_cons_succ])
            refine wpAnyH_take (i := 10) (oi := _) (v := ?_) rfl (by kernel_rfl) (by kernel_rfl) (by kernel_rfl) (fun _ _ _ h => h) (Or.inl ⟨by rfl, ?_⟩) (by assumption) ?_
            rotate_left
            · (intro w hSw; (try dsimp only at hSw); go_simp; rw [← HAR.out]; (try with_reducible rfl))
            (try simp only [Act.put, List.getElem_toArray, List.getElem_cons_zero, List.getElem_cons_succ, List.setIfInBounds_toArray, List.set_cons_zero, List.set_cons_succ])
            refine wpAnyH_ready (rs := [0, 6]) (by kernel_rfl) (by simp) ?_
            refine AllReadyH.cons (o := _) rfl (fun K hK => ?_) ?_
            · go_simp
              have BE : Hid (Blk ((wr.drew).alloc (.cells #[] 3)) (wr.heap.size) 3 []) := Lib.hid (Blk.at_new _ 3 _ [] (by simp))
              refine hK.out _ _ ?_ (fun hHeld => ?_)
              · trivial
              clear hK K
              (try simp only [Act.put, List.getElem_toArray, List.getElem_cons_zero, List.getElem_cons_succ, List.setIfInBounds_toArray, List.set_cons_zero, List.set_cons_succ])
              refine wpAnyH_ready (rs := [4, 6]) (by kernel_rfl) (by simp) ?_
              refine AllReadyH.cons (o := _) rfl (fun K hK => ?_) ?_
              · refine step_append_rd _ (by rfl) _ _ _ (by rfl) w.heap.size 3 i0 _ 1 8 Tryd.underlying31 hi0 hz0 hz1 hz2 rfl (by omega) (.slice (some ⟨wr.heap.size, 0, none⟩) 0 0) 0 ([]) (by rfl) (own_blkN BE.out (by omega) rfl (by omega)) _ (some ⟨b, off, none⟩) k c (ints (xs.take k)) (by rfl) (HT.out.below (below_via HB.out (by go_grown))) (one_intsN _) (by unfold maxLen; omega) (by omega) (by (try simp); omega) ?_
                intro A4 c4 w4 ho4 hg4 ha4
                (try simp only [Nat.zero_add, List.nil_append] at ho4 ⊢)
                have hs4 := hg4.size
                (try simp at hs4)
                have O4 := Lib.hid ho4
                have L4 : Hid (Below w.heap.size w w4) := Lib.hid ((show Below w.heap.size w _ from below_via HB.out (by go_grown)).grown hg4 (by (try simp); omega) (fun b e => by have e2 := ob_of e; omega))
                clear ho4 hg4 ha4
                refine hK.out _ _ ?_ (fun hHeld => ?_)
                · trivial
                clear hK K
                (try simp only [Act.put, List.getElem_toArray, List.getElem_cons_zero, List.getElem_cons_succ, List.setIfInBounds_toArray, List.set_cons_zero, List.set_cons_succ])
                refine wpAnyH_ready (rs := [6]) (by kernel_rfl) (by simp) ?_
                refine AllReadyH.cons (o := _) rfl (fun K hK => ?_) AllReadyH.nil
                go_simp
                have BN : Hid (Blk (w4.alloc (.cells #[.int .i64 n] 3)) (w4.heap.size) 3 [.int .i64 n]) := Lib.hid (Blk.at_new _ 3 _ [.int .i64 n] (by simp))
                have O4 := Lib.hid (own_up O4.out (w' := w4.alloc (.cells #[.int .i64 n] 3)) (by go_grown))
                have L4 : Hid (Below w.heap.size w (w4.alloc (.cells #[.int .i64 n] 3))) := Lib.hid (below_via L4.out (by go_grown))
                refine hK.out _ _ ?_ (fun hHeld => ?_)
                · trivial
                clear hK K
                (try simp only [Act.put, List.getElem_toArray, List.getElem_cons_zero, List.getElem_cons_succ, List.setIfInBounds_toArray, List.set_cons_zero, List.set_cons_succ])
                refine wpAnyH_ready (rs := [7]) (by kernel_rfl) (by simp) ?_
                refine AllReadyH.cons (o := _) rfl (fun K hK => ?_) AllReadyH.nil
                refine step_append_rd _ (by rfl) _ _ _ (by rfl) w.heap.size 3 i0 _ 1 8 Tryd.underlying31 hi0 hz0 hz1 hz2 rfl (by omega) (.slice (A4) k c4) k (ints (xs.take k)) (by rfl) (O4.out) _ (some ⟨w4.heap.size, 0, none⟩) 1 1 ([.int .i64 n]) (by rfl) (rdN_blk BN.out rfl) (one_intsN [n]) (by unfold maxLen; omega) (by omega) (by (try simp); omega) ?_
                intro A7 c7 w7 ho7 hg7 ha7
                have hs7 := hg7.size
                (try simp at hs7)
                have O7 := Lib.hid ho7
                have L7 : Hid (Below w.heap.size w w7) := Lib.hid (L4.out.grown hg7 (by (try simp); omega) (fun b e => (O4.out.lt b e).1))
                clear ho7 hg7 ha7
                refine hK.out _ _ ?_ (fun hHeld => ?_)
                · trivial
                clear hK K
                (try simp only [Act.put, List.getElem_toArray, List.getElem_cons_zero, List.getElem_cons_succ, List.setIfInBounds_toArray, List.set_cons_zero, List.set_cons_succ])
                refine wpAnyH_ready (rs := [11]) (by kernel_rfl) (by simp) ?_
                refine AllReadyH.cons (o := _) rfl (fun K hK => ?_) AllReadyH.nil
                refine step_append_rd _ (by rfl) _ _ _ (by rfl) w.heap.size 3 i0 _ 1 8 Tryd.underlying31 hi0 hz0 hz1 hz2 rfl (by omega) (.slice (A7) (k + 1) c7) (k + 1) (ints (xs.take k) ++ [.int .i64 n]) (by rfl) (O7.out) _ (AR2) (m - k) (c - k) (ints (xs.drop k)) (by rfl) (HD.out.below L7.out) (one_intsN _) (by unfold maxLen; omega) (by omega) (by (try simp); omega) ?_
                intro A11 c11 w11 ho11 hg11 ha11
                have O11 := Lib.hid ho11
                have L11 : Hid (Below w.heap.size w w11) := Lib.hid (L7.out.grown hg11 (by (try simp); omega) (fun b e => (O7.out.lt b e).1))
                clear ho11 hg11 ha11
                refine hK.out _ _ ?_ (fun hHeld => ?_)
                · trivial
                clear hK K
                (try simp only [Act.put, List.getElem_toArray, List.getElem_cons_zero, List.getElem_cons_succ, List.setIfInBounds_toArray, List.set_cons_zero, List.set_cons_succ])
                refine wpAnyH_take (i := 12) (oi := _) (v := ?_) rfl (by kernel_rfl) (by kernel_rfl) (by kernel_rfl) (fun _ _ _ h => h) (Or.inl ⟨by rfl, ?_⟩) (by assumption) ?_
                rotate_left
                · (intro w hSw; (try dsimp only at hSw); go_simp; (try with_reducible rfl))
                (try simp only [Act.put, List.getElem_toArray, List.getElem_cons_zero, List.getElem_cons_succ, List.setIfInBounds_toArray, List.set_cons_zero, List.set_cons_succ])
                refine wpAnyH_done (by kernel_rfl) ?_ _
                go_wp2_with fail
                go_returns
                have hN : k + 1 + (m - k) = (putI xs n).length := by rw [HP.out]; simp; omega
                have o11 := O11.out
                rw [show ints (xs.take k) ++ [.int .i64 n] ++ ints (xs.drop k) = ints (putI xs n) from by rw [HP.out]; simp [ints]] at o11
                rw [← hN]
                exact ⟨A11, c11, rfl, own_base o11 hlo, L11.out⟩
              refine AllReadyH.cons (o := _) rfl (fun K hK => ?_) ?_
              · go_simp
                have BE := Lib.hid (BE.out.alloc (.cells #[.int .i64 n] 3))
                have BN : Hid (Blk (((wr.drew).alloc (.cells #[] 3)).alloc (.cells #[.int .i64 n] 3)) (wr.heap.size + 1) 3 [.int .i64 n]) := Lib.hid (Blk.at_new _ 3 _ [.int .i64 n] (by simp))
                refine hK.out _ _ ?_ (fun hHeld => ?_)
                · trivial
                clear hK K
                (try simp only [Act.put, List.getElem_toArray, List.getElem_cons_zero, List.getElem_cons_succ, List.setIfInBounds_toArray, List.set_cons_zero, List.set_cons_succ])
                refine wpAnyH_ready (rs := [4]) (by kernel_rfl) (by simp) ?_
                refine AllReadyH.cons (o := _) rfl (fun K hK => ?_) AllReadyH.nil
                refine step_append_rd _ (by rfl) _ _ _ (by rfl) w.heap.size 3 i0 _ 1 8 Tryd.underlying31 hi0 hz0 hz1 hz2 rfl (by omega) (.slice (some ⟨wr.heap.size, 0, none⟩) 0 0) 0 ([]) (by rfl) (own_blkN BE.out (by omega) rfl (by omega)) _ (some ⟨b, off, none⟩) k c (ints (xs.take k)) (by rfl) (HT.out.below (below_via HB.out (by go_grown))) (one_intsN _) (by unfold maxLen; omega) (by omega) (by (try simp); omega) ?_
                intro A4 c4 w4 ho4 hg4 ha4
                (try simp only [Nat.zero_add, List.nil_append] at ho4 ⊢)
                have hs4 := hg4.size
                (try simp at hs4)
                have O4 := Lib.hid ho4
                have L4 : Hid (Below w.heap.size w w4) := Lib.hid ((show Below w.heap.size w _ from below_via HB.out (by go_grown)).grown hg4 (by (try simp); omega) (fun b e => by have e2 := ob_of e; omega))
                have BN := Lib.hid (BN.out.gn hg4 (fun e => by have e2 := ob_of e; omega))
                clear ho4 hg4 ha4
                refine hK.out _ _ ?_ (fun hHeld => ?_)
                · trivial
                clear hK K
                (try simp only [Act.put, List.getElem_toArray, List.getElem_cons_zero, List.getElem_cons_succ, List.setIfInBounds_toArray, List.set_cons_zero, List.set_cons_succ])
                refine wpAnyH_ready (rs := [7]) (by kernel_rfl) (by simp) ?_
                refine AllReadyH.cons (o := _) rfl (fun K hK => ?_) AllReadyH.nil
                refine step_append_rd _ (by rfl) _ _ _ (by rfl) w.heap.size 3 i0 _ 1 8 Tryd.underlying31 hi0 hz0 hz1 hz2 rfl (by omega) (.slice (A4) k c4) k (ints (xs.take k)) (by rfl) (O4.out) _ (some ⟨wr.heap.size + 1, 0, none⟩) 1 1 ([.int .i64 n]) (by rfl) (rdN_blk BN.out rfl) (one_intsN [n]) (by unfold maxLen; omega) (by omega) (by (try simp); omega) ?_
                intro A7 c7 w7 ho7 hg7 ha7
                have hs7 := hg7.size
                (try simp at hs7)
                have O7 := Lib.hid ho7
                have L7 : Hid (Below w.heap.size w w7) := Lib.hid (L4.out.grown hg7 (by (try simp); omega) (fun b e => (O4.out.lt b e).1))
                clear ho7 hg7 ha7
                refine hK.out _ _ ?_ (fun hHeld => ?_)
                · trivial
                clear hK K
                (try simp only [Act.put, List.getElem_toArray, List.getElem_cons_zero, List.getElem_cons_succ, List.setIfInBounds_toArray, List.set_cons_zero, List.set_cons_succ])
                refine wpAnyH_ready (rs := [11]) (by kernel_rfl) (by simp) ?_
                refine AllReadyH.cons (o := _) rfl (fun K hK => ?_) AllReadyH.nil
                refine step_append_rd _ (by rfl) _ _ _ (by rfl) w.heap.size 3 i0 _ 1 8 Tryd.underlying31 hi0 hz0 hz1 hz2 rfl (by omega) (.slice (A7) (k + 1) c7) (k + 1) (ints (xs.take k) ++ [.int .i64 n]) (by rfl) (O7.out) _ (AR2) (m - k) (c - k) (ints (xs.drop k)) (by rfl) (HD.out.below L7.out) (one_intsN _) (by unfold maxLen; omega) (by omega) (by (try simp); omega) ?_
                intro A11 c11 w11 ho11 hg11 ha11
                have O11 := Lib.hid ho11
                have L11 : Hid (Below w.heap.size w w11) := Lib.hid (L7.out.grown hg11 (by (try simp); omega) (fun b e => (O7.out.lt b e).1))
                clear ho11 hg11 ha11
                refine hK.out _ _ ?_ (fun hHeld => ?_)
                · trivial
                clear hK K
                (try simp only [Act.put, List.getElem_toArray, List.getElem_cons_zero, List.getElem_cons_succ, List.setIfInBounds_toArray, List.set_cons_zero, List.set_cons_succ])
                refine wpAnyH_take (i := 12) (oi := _) (v := ?_) rfl (by kernel_rfl) (by kernel_rfl) (by kernel_rfl) (fun _ _ _ h => h) (Or.inl ⟨by rfl, ?_⟩) (by assumption) ?_
                rotate_left
                · (intro w hSw; (try dsimp only at hSw); go_simp; (try with_reducible rfl))
                (try simp only [Act.put, List.getElem_toArray, List.getElem_cons_zero, List.getElem_cons_succ, List.setIfInBounds_toArray, List.set_cons_zero, List.set_cons_succ])
                refine wpAnyH_done (by kernel_rfl) ?_ _
                go_wp2_with fail
                go_returns
                have hN : k + 1 + (m - k) = (putI xs n).length := by rw [HP.out]; simp; omega
                have o11 := O11.out
                rw [show ints (xs.take k) ++ [.int .i64 n] ++ ints (xs.drop k) = ints (putI xs n) from by rw [HP.out]; simp [ints]] at o11
                rw [← hN]
                exact ⟨A11, c11, rfl, own_base o11 hlo, L11.out⟩
              exact AllReadyH.nil
            refine AllReadyH.cons (o := _) rfl (fun K hK => ?_) ?_
            · go_simp
              have BN : Hid (Blk ((wr.drew).alloc (.cells #[.int .i64 n] 3)) (wr.heap.size) 3 [.int .i64 n]) := Lib.hid (Blk.at_new _ 3 _ [.int .i64 n] (by simp))
              refine hK.out _ _ ?_ (fun hHeld => ?_)
              · trivial
              clear hK K
              (try simp only [Act.put, List.getElem_toArray, List.getElem_cons_zero, List.getElem_cons_succ, List.setIfInBounds_toArray, List.set_cons_zero, List.set_cons_succ])
              refine wpAnyH_ready (rs := [0]) (by kernel_rfl) (by simp) ?_
              refine AllReadyH.cons (o := _) rfl (fun K hK => ?_) AllReadyH.nil
              go_simp
              have BE : Hid (Blk (((wr.drew).alloc (.cells #[.int .i64 n] 3)).alloc (.cells #[] 3)) (wr.heap.size + 1) 3 []) := Lib.hid (Blk.at_new _ 3 _ [] (by simp))
              have BN := Lib.hid (BN.out.alloc (.cells #[] 3))
              refine hK.out _ _ ?_ (fun hHeld => ?_)
              · trivial
              clear hK K
              (try simp only [Act.put, List.getElem_toArray, List.getElem_cons_zero, List.getElem_cons_succ, List.setIfInBounds_toArray, List.set_cons_zero, List.set_cons_succ])
              refine wpAnyH_ready (rs := [4]) (by kernel_rfl) (by simp) ?_
              refine AllReadyH.cons (o := _) rfl (fun K hK => ?_) AllReadyH.nil
              refine step_append_rd _ (by rfl) _ _ _ (by rfl) w.heap.size 3 i0 _ 1 8 Tryd.underlying31 hi0 hz0 hz1 hz2 rfl (by omega) (.slice (some ⟨wr.heap.size + 1, 0, none⟩) 0 0) 0 ([]) (by rfl) (own_blkN BE.out (by omega) rfl (by omega)) _ (some ⟨b, off, none⟩) k c (ints (xs.take k)) (by rfl) (HT.out.below (below_via HB.out (by go_grown))) (one_intsN _) (by unfold maxLen; omega) (by omega) (by (try simp); omega) ?_
              intro A4 c4 w4 ho4 hg4 ha4
              (try simp only [Nat.zero_add, List.nil_append] at ho4 ⊢)
              have hs4 := hg4.size
              (try simp at hs4)
              have O4 := Lib.hid ho4
              have L4 : Hid (Below w.heap.size w w4) := Lib.hid ((show Below w.heap.size w _ from below_via HB.out (by go_grown)).grown hg4 (by (try simp); omega) (fun b e => by have e2 := ob_of e; omega))
              have BN := Lib.hid (BN.out.gn hg4 (fun e => by have e2 := ob_of e; omega))
              clear ho4 hg4 ha4
              refine hK.out _ _ ?_ (fun hHeld => ?_)
              · trivial
              clear hK K
              (try simp only [Act.put, List.getElem_toArray, List.getElem_cons_zero, List.getElem_cons_succ, List.setIfInBounds_toArray, List.set_cons_zero, List.set_cons_succ])
              refine wpAnyH_ready (rs := [7]) (by kernel_rfl) (by simp) ?_
              refine AllReadyH.cons (o := _) rfl (fun K hK => ?_) AllReadyH.nil
              refine step_append_rd _ (by rfl) _ _ _ (by rfl) w.heap.size 3 i0 _ 1 8 Tryd.underlying31 hi0 hz0 hz1 hz2 rfl (by omega) (.slice (A4) k c4) k (ints (xs.take k)) (by rfl) (O4.out) _ (some ⟨wr.heap.size, 0, none⟩) 1 1 ([.int .i64 n]) (by rfl) (rdN_blk BN.out rfl) (one_intsN [n]) (by unfold maxLen; omega) (by omega) (by (try simp); omega) ?_
              intro A7 c7 w7 ho7 hg7 ha7
              have hs7 := hg7.size
              (try simp at hs7)
              have O7 := Lib.hid ho7
              have L7 : Hid (Below w.heap.size w w7) := Lib.hid (L4.out.grown hg7 (by (try simp); omega) (fun b e => (O4.out.lt b e).1))
              clear ho7 hg7 ha7
              refine hK.out _ _ ?_ (fun hHeld => ?_)
              · trivial
              clear hK K
              (try simp only [Act.put, List.getElem_toArray, List.getElem_cons_zero, List.getElem_cons_succ, List.setIfInBounds_toArray, List.set_cons_zero, List.set_cons_succ])
              refine wpAnyH_ready (rs := [11]) (by kernel_rfl) (by simp) ?_
              refine AllReadyH.cons (o := _) rfl (fun K hK => ?_) AllReadyH.nil
              refine step_append_rd _ (by rfl) _ _ _ (by rfl) w.heap.size 3 i0 _ 1 8 Tryd.underlying31 hi0 hz0 hz1 hz2 rfl (by omega) (.slice (A7) (k + 1) c7) (k + 1) (ints (xs.take k) ++ [.int .i64 n]) (by rfl) (O7.out) _ (AR2) (m - k) (c - k) (ints (xs.drop k)) (by rfl) (HD.out.below L7.out) (one_intsN _) (by unfold maxLen; omega) (by omega) (by (try simp); omega) ?_
              intro A11 c11 w11 ho11 hg11 ha11
              have O11 := Lib.hid ho11
              have L11 : Hid (Below w.heap.size w w11) := Lib.hid (L7.out.grown hg11 (by (try simp); omega) (fun b e => (O7.out.lt b e).1))
              clear ho11 hg11 ha11
              refine hK.out _ _ ?_ (fun hHeld => ?_)
              · trivial
              clear hK K
              (try simp only [Act.put, List.getElem_toArray, List.getElem_cons_zero, List.getElem_cons_succ, List.setIfInBounds_toArray, List.set_cons_zero, List.set_cons_succ])
              refine wpAnyH_take (i := 12) (oi := _) (v := ?_) rfl (by kernel_rfl) (by kernel_rfl) (by kernel_rfl) (fun _ _ _ h => h) (Or.inl ⟨by rfl, ?_⟩) (by assumption) ?_
              rotate_left
              · (intro w hSw; (try dsimp only at hSw); go_simp; (try with_reducible rfl))
              (try simp only [Act.put, List.getElem_toArray, List.getElem_cons_zero, List.getElem_cons_succ, List.setIfInBounds_toArray, List.set_cons_zero, List.set_cons_succ])
              refine wpAnyH_done (by kernel_rfl) ?_ _
              go_wp2_with fail
              go_returns
              have hN : k + 1 + (m - k) = (putI xs n).length := by rw [HP.out]; simp; omega
              have o11 := O11.out
              rw [show ints (xs.take k) ++ [.int .i64 n] ++ ints (xs.drop k) = ints (putI xs n) from by rw [HP.out]; simp [ints]] at o11
              rw [← hN]
              exact ⟨A11, c11, rfl, own_base o11 hlo, L11.out⟩
            exact AllReadyH.nil
  · have hw2 : decide (0 ≤ n ∧ n ≤ 4294967295) = false := by simpa [wordB] using hw
    have hp := putI_no (l := xs) hw
    go_enter Tryd.func37, Tryd.ntmps37
    go_wp2_with (go_at_call 18; refine (l1In_c _ _ _ _).mono ?_; rintro e w1 ⟨rfl, rfl⟩; rw [hw2])
    go_returns
    rw [hp, hl]
    exact ⟨some ⟨b, off, none⟩, c, rfl, HO.out, Below.refl _ _⟩
end Go.Proofs.YtmfienlceobfeaaDoor
