/- l13Near: the reference's near calls. Conditions: each contract's own. -/
import Derived.Test.YtmfienlceobfeaaDoorJe84259556f
namespace Go.Proofs.YtmfienlceobfeaaDoor
set_option linter.unusedSimpArgs false
open Go.RowKit
set_option linter.unusedVariables false
set_option linter.unnecessarySimpa false
set_option maxRecDepth 20000
/-- Calls in memory that is new or was there. -/
def RetCalls (cs : List (List Int)) (w : World) (e : Ending) (w' : World) : Prop :=
  ∃ A c, e = .returned (.slice A cs.length c) ∧ RdC w' w'.heap.size A cs.length cs ∧ Below w.heap.size w w'
/-- The first k lists, in a row of slices. -/
def WL (w : World) (lo ET k : Nat) (ls : List (List Int)) (vs : List Value) : Prop := ∀ j xs, j < k → ls[j]? = some xs → ∃ b c, vs[j]? = some (.slice (some ⟨b, 0, none⟩) xs.length c) ∧ w.ownsRow lo ET 1 (.slice (some ⟨b, 0, none⟩) xs.length c) xs.length (ints xs)
theorem WL.kept {w w' : World} {lo lo' ET RT k n : Nat} {ls : List (List Int)} {vs us : List Value} {v : Value} (h : WL w lo ET k ls vs) (hr : w.ownsRow lo' RT 1 v n us) (hT : RT ≠ ET) (hg : w.grownBy w' v.ownBlock) : WL w' lo ET k ls vs := fun j xs hj hx => by
  obtain ⟨b, c, e, ho⟩ := h j xs hj hx
  refine ⟨b, c, e, ho.kept hg ?_⟩
  exact .inr (fun e2 => own_unlike ho hr (Ne.symm hT) b rfl (by rw [← e2]; rfl))
theorem WL.up {w w' : World} {lo ET k : Nat} {ls : List (List Int)} {vs : List Value} (h : WL w lo ET k ls vs) (hb : Below w.heap.size w w') : WL w' lo ET k ls vs := fun j xs hj hx => by
  obtain ⟨b, c, e, ho⟩ := h j xs hj hx
  exact ⟨b, c, e, own_up ho hb⟩
theorem WL.snoc {w : World} {lo ET k b c : Nat} {ls : List (List Int)} {vs : List Value} {xs : List Int} (h : WL w lo ET k ls vs) (hv : vs.length = k) (hx : ls[k]? = some xs) (ho : w.ownsRow lo ET 1 (.slice (some ⟨b, 0, none⟩) xs.length c) xs.length (ints xs)) : WL w lo ET (k + 1) ls (vs ++ [.slice (some ⟨b, 0, none⟩) xs.length c]) := fun j ys hj hy => by
  by_cases hjk : j < k
  · obtain ⟨b', c', e, ho'⟩ := h j ys hjk hy
    exact ⟨b', c', by rw [List.getElem?_append_left (by omega)]; exact e, ho'⟩
  · obtain rfl : j = k := by omega
    rw [hx] at hy
    injection hy with hy
    subst hy
    exact ⟨b, c, by rw [List.getElem?_append_right (by omega), hv]; simp, ho⟩
theorem WL.wd {w : World} {lo lo' ET RT bw c : Nat} {ls : List (List Int)} {vs : List Value} (h : WL w lo ET 5 ls vs) (hl : ls.length = 5) (hs : ∀ xs ∈ ls, xs.length ≤ 1000) (ho : w.ownsRow lo' RT 1 (.slice (some ⟨bw, 0, none⟩) 5 c) 5 vs) : WD w w.heap.size bw 0 ls := fun i xs hi => by
  have hi5 : i < 5 := by have := (List.getElem?_eq_some_iff.1 hi).1; omega
  obtain ⟨b, c', e, ho'⟩ := h i xs hi5 hi
  obtain ⟨b1, o1, e1, hb1, hc1⟩ := (Rd.of_own ho).2 (by omega)
  injection e1 with e1
  injection e1 with e1 e2
  subst e1 e2
  refine ⟨hb1, b, 0, c', (ho'.lt b rfl).2, hs xs (List.mem_of_getElem? hi), hc1 _ _ e, fun j x hj => ?_⟩
  exact (rdN_cell (Rd.of_own ho') hj).1
theorem wordsAt_at {ws : List (List Int)} {a : List Nat} {j x : Nat} {xs : List Int} (hw : ws[j]? = some xs) (ha : a[j]? = some x) : (wordsAt ws a)[j]? = some (xs.getD x 0) := by
  unfold wordsAt
  have := List.getElem?_zip_eq_some (l₁ := ws) (l₂ := a) (z := (xs, x)) (i := j)
  rw [List.getElem?_map, this.2 ⟨hw, ha⟩]
  rfl
theorem getD_at {xs : List Int} {x : Nat} (h : x < xs.length) : xs[x]? = some (xs.getD x 0) := by
  rw [List.getD_eq_getElem?_getD, List.getElem?_eq_getElem h]; rfl
theorem nearL_small {rs : List Rl} (h8 : rs.length ≤ 8) (h4 : ∀ r ∈ rs, r.ts.length ≤ 4) : ∀ xs ∈ nearL rs, xs.length ≤ 1000 := by
  have key : ∀ f, (nearW rs f).length ≤ 1000 := fun f => by
    have h1 := puts_len (rawW f rs) [0]
    have h2 : (rawW f rs).length ≤ rs.length * 12 := by
      unfold rawW
      clear h1 h8
      induction rs with
      | nil => simp
      | cons r rs ih =>
        rw [List.flatMap_cons, List.length_append, List.length_cons]
        have h3 : (rawR f r).length ≤ 12 := by
          unfold rawR
          split
          · simp
          · have h5 := h4 r List.mem_cons_self
            have h6 : (r.ts.flatMap (rawT f)).length ≤ r.ts.length * 3 := by
              generalize r.ts = ts
              induction ts with
              | nil => simp
              | cons t ts iht =>
                rw [List.flatMap_cons, List.length_append, List.length_cons]
                have := rawT_len f t
                omega
            omega
        have := ih (fun r hr => h4 r (List.mem_cons_of_mem _ hr))
        omega
    unfold nearW
    simp at h1
    omega
  intro xs hx
  simp only [nearL, List.mem_cons, List.not_mem_nil, or_false] at hx
  rcases hx with rfl | rfl | rfl | rfl | rfl <;> exact key _
/-- At a place: what is chosen there, and how it lies. -/
theorem five_at {W w : World} {B bw : Nat} {rs : List Rl} {a : List Nat} (h : WD W B bw 0 (nearL rs)) (k : Below B W w) (ha : a ∈ allN (lensN (nearL rs))) : ∀ j, j < 5 → ∃ x bb oo cc nn y, a[j]? = some x ∧ x < nn ∧ nn ≤ 1000 ∧ bw < B ∧ bb < B ∧ w.cell? ⟨bw, j, none⟩ = some (.slice (some ⟨bb, oo, none⟩) nn cc) ∧ w.cell? ⟨bb, oo + x, none⟩ = some (.int .i64 y) ∧ (wordsAt (nearL rs) a)[j]? = some y ∧ (lensN (nearL rs))[j]? = some nn := fun j hj => by
  obtain ⟨h1, h2⟩ := (allN_mem _ _).1 ha
  have hl : a.length = 5 := h1
  obtain ⟨x, hx⟩ : ∃ x, a[j]? = some x := ⟨a[j]'(by omega), List.getElem?_eq_getElem (by omega)⟩
  have hlt := h2 j x _ hx (lensN_at hj)
  obtain ⟨hb, bb, oo, cc, h3, h4, h5, h6⟩ := h.below k j _ (nearL_at hj)
  rw [Nat.zero_add] at h5
  exact ⟨x, bb, oo, cc, _, _, hx, hlt, h4, hb, h3, h5, h6 x _ (getD_at hlt), wordsAt_at (nearL_at hj) hx, lensN_at hj⟩
theorem next_mem {rs : List Rl} {a b : List Nat} (h : a ∈ allN (lensN (nearL rs))) (hn : nextN (lensN (nearL rs)) a = some b) : b ∈ allN (lensN (nearL rs)) := by
  obtain ⟨k, hk⟩ := List.mem_iff_getElem?.1 h
  rw [(allN_step _ (lens_pos rs)).2 k a hk] at hn
  exact List.mem_of_getElem? hn
theorem info_row : (Tryd.prog.info? 31).map (fun i => (i.zero, i.size, i.bytes)) = some (some (.slice none 0 0), 1, 24) := by kernel_rfl
theorem info_call : (Tryd.prog.info? 33).map (fun i => (i.zero, i.size, i.bytes)) = some (some (.agg #[.int .i64 0, .slice none 0 0]), 2, 32) := by kernel_rfl
set_option maxHeartbeats 8000000 in
set_option maxRecDepth 100000 in
theorem l13Near_c (A : Option Addr) (n c : Nat) (rs : List Rl) (e : Int) (most : Nat) (w : World) (hn : n ≤ 8) (hm : most ≤ 600) (hr : RdR w w.heap.size A n rs) (hB : rs.all ruleB = true) :
    Calls Tryd.prog 16 #[.agg #[.slice A n c, .int .i64 e], .int .i64 most] w (RetCalls (nearC rs most) w) := by
  obtain ⟨i0, hi0, hz0, hz1, hz2⟩ := info_parts info_int
  obtain ⟨i1, hi1, hy0, hy1, hy2⟩ := info_parts info_row
  obtain ⟨i2, hi2, hx0, hx1, hx2⟩ := info_parts info_call
  have hl1 := hr.1
  subst hl1
  have HR := Lib.hid hr
  have HBB := Lib.hid hB
  have HSM := Lib.hid (nearL_small (rs := rs) hn (fun r hr => by
    rw [List.all_eq_true] at hB
    exact (rule_and (hB r hr)).2.2.2.2.1))
  clear hr hB
  have hmk : ∀ W : World, (Instr.makeSlice 31 (.int .i64 5) (.int .i64 5)).run Tryd.prog W = .ok (.slice (some ⟨W.heap.size, 0, none⟩) 5 5) (W.alloc (.cells #[.int .i64 0, .int .i64 0, .int .i64 0, .int .i64 0, .int .i64 0] 3)) := fun W => by kernel_rfl
  go_enter Tryd.func16, Tryd.ntmps16
  have HX0 := Lib.hid ((Blk.new w 25 [.slice A rs.length c, .int .i64 e]).alloc (.cells #[] 31))
  have HO0 := Lib.hid (own_new0 (w.alloc (.cells #[.slice A rs.length c, .int .i64 e] 25)) 31 (w.heap.size + 1) 1 (by simp))
  go_wp2_with fail
  go_loopg [5, 6] 5 (fun gk v i wr => ∃ (k : Nat) (A' : Option Addr) (c' : Nat) (vs : List Value), gk + k = 5 ∧ i = .int .i64 k ∧ v = .slice A' k c' ∧ Hid (wr.ownsRow (w.heap.size + 1) 31 1 (.slice A' k c') k vs) ∧ Hid (∀ u ∈ vs, u.oneCell' = true) ∧ Hid (WL wr (w.heap.size + 1) 3 k (nearL rs) vs) ∧ Hid (Blk wr w.heap.size 25 [.slice A rs.length c, .int .i64 e]) ∧ Hid (Below w.heap.size w wr) ∧ w.heap.size + 1 ≤ wr.heap.size)
  case atStart => exact ⟨0, _, 0, [], by omega, rfl, rfl, Lib.hid (by simpa using HO0.out), Lib.hid (by simp), Lib.hid (fun j xs hj => by omega), HX0, Lib.hid (by go_grown), by simp⟩
  case round =>
    obtain ⟨k, A', c', vs, hgk, rfl, rfl, HO, HV, HW, HX, HF, hsz⟩ := hrel
    have hbs := HF.out.size
    have xp0 := HX.out.cell (i := 0) rfl
    have xp1 := HX.out.cell (i := 1) rfl
    by_cases hk : gk = 0
    · subst hk
      obtain rfl : k = 5 := by omega
      obtain ⟨bw, rfl, hbw1, hbw2⟩ := ownN_some HO.out (by omega)
      have HWD := Lib.hid (HW.out.wd (nearL_len rs) HSM.out HO.out)
      have HF0 := HF
      generalize hW1 : wr = W1 at *
      have HB0 : Hid (Blk ((W1.alloc (.cells #[.int .i64 0, .int .i64 0, .int .i64 0, .int .i64 0, .int .i64 0] 3)).alloc (.cells #[] 33)) W1.heap.size 3 (nv [0, 0, 0, 0, 0])) := Lib.hid ((Blk.new W1 3 (nv [0, 0, 0, 0, 0])).alloc _)
      have HC0 : Hid (CP ((W1.alloc (.cells #[.int .i64 0, .int .i64 0, .int .i64 0, .int .i64 0, .int .i64 0] 3)).alloc (.cells #[] 33)) (W1.heap.size + 1) 33 3 (some ⟨W1.heap.size + 1, 0, none⟩) 0 0 []) := Lib.hid ⟨by simpa [ccells] using own_new0 (W1.alloc (.cells #[.int .i64 0, .int .i64 0, .int .i64 0, .int .i64 0, .int .i64 0] 3)) 33 (W1.heap.size + 1) 2 (by simp), (fun q hq => by cases hq)⟩
      have hzz : [0, 0, 0, 0, 0] ∈ allN (lensN (nearL rs)) := List.mem_of_getElem? (allN_step _ (lens_pos rs)).1
      have zW1 : W1.heap.size < ((W1.alloc (.cells #[.int .i64 0, .int .i64 0, .int .i64 0, .int .i64 0, .int .i64 0] 3)).alloc (.cells #[] 33)).heap.size := by simp; omega
      go_wp2_with fail
      go_loopg [8] most (fun gk v8 wr => ∃ (k : Nat) (A' : Option Addr) (c' : Nat) (qs : List (List Int × Value)) (a : List Nat), gk + k = most ∧ v8 = .slice A' k c' ∧ a.length = 5 ∧ Hid (a ∈ allN (lensN (nearL rs))) ∧ Hid (nearC rs most = qs.map Prod.fst ++ (goN (lensN (nearL rs)) gk a).map (wordsAt (nearL rs))) ∧ Hid (CP wr (W1.heap.size + 1) 33 3 A' k c' qs) ∧ Hid (Blk wr W1.heap.size 3 (nv a)) ∧ Hid (Below W1.heap.size W1 wr) ∧ W1.heap.size < wr.heap.size)
      case atStart => exact ⟨0, _, 0, [], [0, 0, 0, 0, 0], by omega, rfl, rfl, Lib.hid hzz, Lib.hid rfl, HC0, HB0, Lib.hid (by go_grown), zW1⟩
      case round =>
        clear HB0 HC0 zW1 hzz
        obtain ⟨k, A', c1, qs, a, hgk, rfl, ha5, HA, HN, HC, HAT, HFR, hsz⟩ := hrel
        have hbs := HFR.out.size
        by_cases hk : gk = 0
        · subst hk
          have hkm : k = most := by omega
          have HN2 : nearC rs most = qs.map Prod.fst := by rw [HN.out]; simp [goN]
          have hkl : (nearC rs most).length = k := by rw [HN2, List.length_map]; exact HC.out.len
          have HRC := HC.out.rd
          rw [← HN2] at HRC
          have HRC2 := Lib.hid HRC
          have HKL := Lib.hid hkl
          clear HN2 hkl HRC
          subst hkm
          go_wp2
          go_returns
          unfold RetCalls
          rw [HKL.out]
          exact ⟨A', c1, rfl, HRC2.out, below_via HF.out (HFR.out)⟩
        · obtain ⟨gk, rfl⟩ : ∃ m, gk = m + 1 := ⟨gk - 1, by omega⟩
          have hkm : k < most := by omega
          have f0 : decide ((k : Int) < (most : Int)) = true := by simp; omega
          have H5 := Lib.hid (five_at HWD.out HFR.out HA.out)
          obtain ⟨x0, bb0, oo0, cc0, nn0, y0, hx0, hlt0, hnn0, hbwB, hbb0, kw0, kv0, hy0', hl0⟩ := H5.out 0 (by omega)
          have kp0 := HAT.out.cell (i := 0) (nv_at hx0)
          have e1 : bw < wr.heap.size := by omega
          have e2 : bw ≠ wr.heap.size := by omega
          have e3 : bb0 < wr.heap.size := by omega
          have e4 : bb0 ≠ wr.heap.size := by omega
          have e5 : W1.heap.size ≠ wr.heap.size := by omega
          have HY0 := Lib.hid hy0'
          clear hx0 hl0 hy0'
          obtain ⟨ga, rfl⟩ : ∃ x : Nat, x = gk := ⟨_, rfl⟩
          obtain ⟨wo, rfl⟩ : ∃ x : World, x = wr := ⟨_, rfl⟩
          go_upto_region 9 with fail
          refine wp_region_held_drew (S := (fun w' => w'.cell? ⟨bw, 0, none⟩ = some (.slice (some ⟨bb0, oo0, none⟩) nn0 cc0) ∧ w'.cell? ⟨W1.heap.size, 0, none⟩ = some (.int .i64 x0) ∧ w'.cell? ⟨bb0, oo0 + x0, none⟩ = some (.int .i64 y0))) (by kernel_rfl) ?_ (fun hHeld => ?_)
          · ((try dsimp only); (simp [go_sem, *]))
          refine wpAnyH_take (i := 0) (oi := _) (v := ?_) rfl (by kernel_rfl) (by kernel_rfl) (by kernel_rfl) (fun _ _ _ h => h) (Or.inl ⟨by rfl, ?_⟩) (by assumption) ?_
          rotate_left
          · (intro w hSw; (try dsimp only at hSw); go_simp; (try with_reducible rfl))
          (try simp only [Act.put, List.setIfInBounds_toArray, List.set_cons_zero, List.set_cons_succ])
          refine wpAnyH_take (i := 1) (oi := _) (v := ?_) rfl (by kernel_rfl) (by kernel_rfl) (by kernel_rfl) (fun _ _ _ h => h) (Or.inl ⟨by rfl, ?_⟩) (by assumption) ?_
          rotate_left
          · (intro w hSw; (try dsimp only at hSw); go_simp; (try with_reducible rfl))
          (try simp only [Act.put, List.setIfInBounds_toArray, List.set_cons_zero, List.set_cons_succ])
          refine wpAnyH_take (i := 2) (oi := _) (v := ?_) rfl (by kernel_rfl) (by kernel_rfl) (by kernel_rfl) (fun _ _ _ h => h) (Or.inl ⟨by rfl, ?_⟩) (by assumption) ?_
          rotate_left
          · (intro w hSw; (try dsimp only at hSw); go_simp; (try with_reducible rfl))
          (try simp only [Act.put, List.setIfInBounds_toArray, List.set_cons_zero, List.set_cons_succ])
          refine wpAnyH_take (i := 3) (oi := _) (v := ?_) rfl (by kernel_rfl) (by kernel_rfl) (by kernel_rfl) (fun _ _ _ h => h) (Or.inl ⟨by rfl, ?_⟩) (by assumption) ?_
          rotate_left
          · (intro w hSw; (try dsimp only at hSw); go_simp; (try with_reducible rfl))
          (try simp only [Act.put, List.setIfInBounds_toArray, List.set_cons_zero, List.set_cons_succ])
          refine wpAnyH_take (i := 4) (oi := _) (v := ?_) rfl (by kernel_rfl) (by kernel_rfl) (by kernel_rfl) (fun _ _ _ h => h) (Or.inl ⟨by rfl, ?_⟩) (by assumption) ?_
          rotate_left
          · (intro w hSw; (try dsimp only at hSw); go_simp; (try with_reducible rfl))
          (try simp only [Act.put, List.setIfInBounds_toArray, List.set_cons_zero, List.set_cons_succ])
          refine wpAnyH_take (i := 5) (oi := _) (v := ?_) rfl (by kernel_rfl) (by kernel_rfl) (by kernel_rfl) (fun _ _ _ h => h) (Or.inl ⟨by rfl, ?_⟩) (by assumption) ?_
          rotate_left
          · (intro w hSw; (try dsimp only at hSw); go_simp; (try with_reducible rfl))
          (try simp only [Act.put, List.setIfInBounds_toArray, List.set_cons_zero, List.set_cons_succ])
          refine wpAnyH_take (i := 6) (oi := _) (v := ?_) rfl (by kernel_rfl) (by kernel_rfl) (by kernel_rfl) (fun _ _ _ h => h) (Or.inl ⟨by rfl, ?_⟩) (by assumption) ?_
          rotate_left
          · (intro w hSw; (try dsimp only at hSw); go_simp; (try with_reducible rfl))
          (try simp only [Act.put, List.setIfInBounds_toArray, List.set_cons_zero, List.set_cons_succ])
          refine wpAnyH_take (i := 7) (oi := _) (v := ?_) rfl (by kernel_rfl) (by kernel_rfl) (by kernel_rfl) (fun _ _ _ h => h) (Or.inl ⟨by rfl, ?_⟩) (by assumption) ?_
          rotate_left
          · (intro w hSw; (try dsimp only at hSw); go_simp; (try with_reducible rfl))
          (try simp only [Act.put, List.setIfInBounds_toArray, List.set_cons_zero, List.set_cons_succ])
          refine wpAnyH_take (i := 8) (oi := _) (v := ?_) rfl (by kernel_rfl) (by kernel_rfl) (by kernel_rfl) (fun _ _ _ h => h) (Or.inl ⟨by rfl, ?_⟩) (by assumption) ?_
          rotate_left
          · (intro w hSw; (try dsimp only at hSw); go_simp; (try with_reducible rfl))
          (try simp only [Act.put, List.setIfInBounds_toArray, List.set_cons_zero, List.set_cons_succ])
          refine wpAnyH_ready (rs := [9]) (by kernel_rfl) (by simp) ?_
          refine AllReadyH.cons (o := _) rfl (fun K hK => ?_) AllReadyH.nil
          go_simp
          refine hK.out _ _ ?_ (fun hHeld => ?_)
          · ((try dsimp only); (simp [go_sem, *]))
          clear hK K
          (try simp only [Act.put, List.setIfInBounds_toArray, List.set_cons_zero, List.set_cons_succ])
          refine wpAnyH_ready (rs := [10]) (by kernel_rfl) (by simp) ?_
          refine AllReadyH.cons (o := _) rfl (fun K hK => ?_) AllReadyH.nil
          go_simp
          refine hK.out _ _ ?_ (fun hHeld => ?_)
          · ((try dsimp only); (simp [go_sem, *]))
          clear hK K
          (try simp only [Act.put, List.setIfInBounds_toArray, List.set_cons_zero, List.set_cons_succ])
          refine wpAnyH_done (by kernel_rfl) ?_ _
          (try simp only [List.getElem_toArray, List.getElem_cons_zero, List.getElem_cons_succ, List.setIfInBounds_toArray, List.set_cons_zero, List.set_cons_succ])
          have BX : Hid (Blk (wo.alloc (.cells #[.int .i64 y0, .slice none 0 0] 33)).drew wo.heap.size 33 [.int .i64 y0, .slice none 0 0]) := Lib.hid ((Blk.new wo 33 [.int .i64 y0, .slice none 0 0]).drew)
          have BL : Hid (Below wo.heap.size wo (wo.alloc (.cells #[.int .i64 y0, .slice none 0 0] 33)).drew) := Lib.hid (by go_grown)
          have hsX := BX.out.lt
          go_wp2_with fail
          clear kw0 kv0 kp0 e1 e2 e3 e4 e5 hbwB hbb0 hlt0 hnn0
          go_loopg [10] 4 (fun gj v wr => ∃ (m : Nat) (TA : Option Addr) (tc : Nat), gj + m = 4 ∧ v = .int .i64 ((m : Int) + 1) ∧ Hid (Blk wr wo.heap.size 33 [.int .i64 y0, .slice TA m tc]) ∧ Hid (wr.ownsRow (wo.heap.size + 1) 3 1 (.slice TA m tc) m (ints ((wordsAt (nearL rs) a).tail.take m))) ∧ Hid (Below wo.heap.size wo wr) ∧ wo.heap.size < wr.heap.size)
          case atStart => exact ⟨0, none, 0, by omega, rfl, BX, Lib.hid (World.ownsRow_nil _ _ _ _), BL, hsX⟩
          case round =>
            clear BX BL hsX
            obtain ⟨m, TA, tc, hgm, rfl, BX, OT, BL, hsX⟩ := hrel
            by_cases hj : gk = 0
            · subst hj
              obtain rfl : m = 4 := by omega
              obtain ⟨q, hq⟩ : ∃ q : List Int × Value, q = (wordsAt (nearL rs) a, .slice TA 4 tc) := ⟨_, rfl⟩
              have hwl : (wordsAt (nearL rs) a).length = 5 := by
                unfold wordsAt
                rw [List.length_map, List.length_zip, ha5, nearL_len]; rfl
              have OT2 := OT.out
              rw [List.take_of_length_le (by simp [hwl])] at OT2
              have HQ : Hid (CO wr (W1.heap.size + 1) 3 q) := Lib.hid ⟨by rw [hq]; exact own_base OT2 (by omega), by rw [hq]; exact hwl⟩
              have hqc : ([.int .i64 y0, .slice TA 4 tc] : List Value) = ccells [q] := by
                rw [hq]
                have : (wordsAt (nearL rs) a).headD 0 = y0 := by
                  have := HY0.out
                  cases hw : wordsAt (nearL rs) a with
                  | nil => rw [hw] at hwl; cases hwl
                  | cons z zs => rw [hw] at this; simpa using this
                unfold ccells
                simp only [List.flatMap_cons, List.flatMap_nil, List.append_nil, this]
              have HQC := Lib.hid hqc
              have HCB := Lib.hid (HC.out.up BL.out)
              have HAB := Lib.hid (HAT.out.up BL.out)
              have HFB := Lib.hid (HFR.out.trans (BL.out.mono (show W1.heap.size ≤ wo.heap.size by omega)))
              have HOB : Hid (∀ g, (Value.slice A' k c1).ownBlock = some g → W1.heap.size + 1 ≤ g ∧ g < wr.heap.size) := Lib.hid (fun g e => HCB.out.own.lt g e)
              have HQ1 : Hid (q.1 = wordsAt (nearL rs) a) := Lib.hid (by rw [hq])
              have xc0 := BX.out.cell (i := 0) rfl
              have xc1 := BX.out.cell (i := 1) rfl
              have sB := BL.out.size
              clear hqc hq OT2 OT BX BL hwl
              obtain ⟨wi, rfl⟩ : ∃ x : World, x = wr := ⟨_, rfl⟩
              go_wp2_with (at_builtin; go_must (refine wpList_append_rd _ rfl _ _ 27 rfl (W1.heap.size + 1) 33 i2 _ 2 32 Tryd.underlying27 hi2 hx0 hx1 hx2 rfl (by omega) (.slice A' k c1) k (ccells qs) rfl (own_up HCB.out.own (by go_grown)) _ (some ⟨wi.heap.size, 0, none⟩) 1 1 [.int .i64 y0, .slice TA 4 tc] rfl (rd_new (w := wi) rfl 33 2 1 [.int .i64 y0, .slice TA 4 tc] rfl) (fun u hu => by simp at hu; rcases hu with rfl | rfl <;> rfl) (by unfold maxLen; omega) (by omega) (by simp; omega) ?_; intro A5 c5 w5 ho5 hg5 ha5; have hs5 := hg5.size; (try simp at hs5); rw [HQC.out] at ho5; have HC5 := Lib.hid ((HCB.out.up (w' := wi.alloc (.cells #[.int .i64 y0, .slice TA 4 tc] 33)) (by go_grown)).app (by decide) (HQ.out.up (w' := wi.alloc (.cells #[.int .i64 y0, .slice TA 4 tc] 33)) (by go_grown)) ho5 hg5); have HA5 := Lib.hid ((HAB.out.alloc (.cells #[.int .i64 y0, .slice TA 4 tc] 33)).gn hg5 (fun e => by have := HOB.out _ e; omega)); have HF5 := Lib.hid ((show Below W1.heap.size W1 (wi.alloc (.cells #[.int .i64 y0, .slice TA 4 tc] 33)) from HFB.out.alloc (by omega) _).grown hg5 (by (try simp); omega) (fun b e => by have := HOB.out b e; omega)); clear ho5 hg5 ha5))
              obtain ⟨gm0, hgm0⟩ : ∃ x : Nat, x = ga := ⟨_, rfl⟩
              go_loopg [11] 5 (fun gm v wr => ∃ (m : Nat) (z : Int), gm = m ∧ m ≤ 5 ∧ v = .int .i64 z ∧ z = (m : Int) - 1 ∧ Hid (Blk wr W1.heap.size 3 (nv (cB a m))) ∧ Hid (nextN ((lensN (nearL rs)).drop m) (a.drop m) = none) ∧ Hid (CP wr (W1.heap.size + 1) 33 3 A5 (k + 1) c5 (qs ++ [q])) ∧ Hid (Below W1.heap.size W1 wr) ∧ W1.heap.size < wr.heap.size)
              case atStart => exact ⟨5, 4, rfl, Nat.le_refl _, rfl, rfl, Lib.hid (by rw [cB_full ha5]; exact HA5.out), Lib.hid (by rw [List.drop_of_length_le (l := a) (Nat.le_of_eq ha5), List.drop_of_length_le (l := lensN (nearL rs)) (Nat.le_refl 5)]; rfl), HC5, HF5, by omega⟩
              case round =>
                clear HA5 HC5 HF5
                obtain ⟨m, z, rfl, hm5, rfl, hz, HAT, HNX, HC, HFR, hsz⟩ := hrel
                by_cases hm0 : gk = 0
                · subst hm0
                  have hz' : z = -1 := by simpa using hz
                  clear hz
                  subst hz'
                  have HE : Hid (nearC rs most = (qs ++ [q]).map Prod.fst) := Lib.hid (by
                    have hnx := HNX.out
                    rw [List.drop_zero, List.drop_zero] at hnx
                    rw [HN.out, goN, hnx, List.map_append, List.map_cons, List.map_cons, HQ1.out]; rfl)
                  have hkl : (nearC rs most).length = k + 1 := by rw [HE.out, List.length_map]; exact HC.out.len
                  have HRC := HC.out.rd
                  rw [← HE.out] at HRC
                  have HRC2 := Lib.hid HRC
                  have HKL := Lib.hid hkl
                  clear hkl HRC
                  go_upto_region 16 with fail
                  go_quiet (fail)
                  go_wp2
                  go_returns
                  unfold RetCalls
                  rw [HKL.out]
                  exact ⟨A5, c5, rfl, HRC2.out, below_via HF.out (below_via HFR.out (below_drewN' (Below.refl _ wr) nq))⟩
                · obtain ⟨m, rfl⟩ : ∃ x, gk = x + 1 := ⟨gk - 1, by omega⟩
                  have hz' : z = (m : Int) := by omega
                  clear hz
                  subst hz'
                  have hm4 : m < 5 := by omega
                  obtain ⟨x, bb, oo, cc, nn, y, hx, hlt, hnn, hbwB, hbb, kw, kv, hy, hl0⟩ := five_at HWD.out HFR.out HA.out m hm4
                  have kp := HAT.out.cell (i := m) (nv_at ((cB_at ha5 hm4).trans hx))
                  have kf := HAT.out.free m
                  have f1 : decide ((0 : Int) ≤ (m : Int)) = true := by simp
                  have f2 : IntKind.i64.wrap ((nn : Int) - 1) = (nn : Int) - 1 := by rw [IntKind.wrap_i64]; omega
                  have e1 : bw < wr.heap.size := by omega
                  obtain ⟨wi, rfl⟩ : ∃ x : World, x = wr := ⟨_, rfl⟩
                  by_cases hxn : x + 1 < nn
                  · have f3 : ((x : Int) == (nn : Int) - 1) = false := by simp; omega
                    have hne := next_some (ls := lensN (nearL rs)) rfl ha5 hx hl0 hxn HNX.out
                    have HB2 := HAT.out.set_ m (.int .i64 ((x + 1 : Nat) : Int))
                    rw [nv_set, show ((x + 1 : Nat) : Int) = (x : Int) + 1 from by simp] at HB2
                    have f4 : IntKind.i64.wrap ((x : Int) + 1) = (x : Int) + 1 := by rw [IntKind.wrap_i64]; omega
                    have HB3 := Lib.hid HB2
                    have HA2 := Lib.hid (next_mem HA.out hne)
                    have HN2 : Hid (nearC rs most = (qs ++ [q]).map Prod.fst ++ (goN (lensN (nearL rs)) ga ((cB a (m + 1)).set m (x + 1))).map (wordsAt (nearL rs))) := Lib.hid (by rw [HN.out, goN, hne, List.map_append, List.map_cons, List.map_cons, HQ1.out]; simp)
                    have hb5 : ((cB a (m + 1)).set m (x + 1)).length = 5 := by rw [List.length_set]; exact cB_len ha5 (by omega)
                    generalize (cB a (m + 1)).set m (x + 1) = a2 at *
                    clear HB2 hne hx hl0 hy hxn hlt kv
                    go_upto_region 16 with fail
                    go_quiet (fail)
                    go_wp2_with fail
                    go_roundg ga
                    case measure => omega
                    case rel =>
                      go_light
                      exact ⟨k + 1, A5, c5, qs ++ [q], a2, by omega, rfl, hb5, HA2, HN2, Lib.hid ((HC.out.up (below_drewN' (Below.refl _ wi) nq)).setLow (Nat.lt_succ_self _) _), HB3, Lib.hid ((below_via HFR.out (below_drewN' (Below.refl _ wi) nq)).setCell (p := ⟨W1.heap.size, m, none⟩) (Nat.le_refl _) _), by simpa using hsz⟩
                  · have f3 : ((x : Int) == (nn : Int) - 1) = true := by simp; omega
                    have HNX2 := Lib.hid (next_none hx hl0 hxn HNX.out)
                    have HB2 := HAT.out.set_ m (.int .i64 ((0 : Nat) : Int))
                    rw [nv_set, cB_set0 ha5 hm4] at HB2
                    have HB3 := Lib.hid HB2
                    clear HB2 hx hl0 hy hxn hlt kv
                    go_upto_region 16 with fail
                    go_quiet (fail)
                    go_wp2_with fail
                    go_roundg m
                    case measure => omega
                    case rel =>
                      go_light
                      exact ⟨m, (m : Int) - 1, rfl, by omega, rfl, rfl, HB3, HNX2, Lib.hid ((HC.out.up (below_drewN' (Below.refl _ wi) nq)).setLow (Nat.lt_succ_self _) _), Lib.hid ((below_via HFR.out (below_drewN' (Below.refl _ wi) nq)).setCell (p := ⟨W1.heap.size, m, none⟩) (Nat.le_refl _) _), by simpa using hsz⟩
            · obtain ⟨gj, rfl⟩ : ∃ x, gk = x + 1 := ⟨gk - 1, by omega⟩
              have hm4 : m < 4 := by omega
              have f1 : decide ((m : Int) + 1 ≤ 4) = true := by simp; omega
              have f2 : (0 : Int) ≤ (m : Int) + 1 := by omega
              have f3 : (m : Int) + 1 < 5 := by omega
              obtain ⟨x, bb, oo, cc, nn, y, hx, hlt, hnn, hbwB, hbb, kw, kv, hy, hl0⟩ := five_at HWD.out (HFR.out.trans (BL.out.mono (by omega))) HA.out (m + 1) (by omega)
              have kp := (HAT.out.below BL.out (by omega)).cell (i := m + 1) (nv_at hx)
              have HY : Hid (ints ((wordsAt (nearL rs) a).tail.take m) ++ [.int .i64 y] = ints ((wordsAt (nearL rs) a).tail.take (m + 1))) := Lib.hid (by
                have : (wordsAt (nearL rs) a).tail[m]? = some y := by rw [List.getElem?_tail]; exact hy
                rw [List.take_add_one, this]; simp [ints])
              have xc0 := BX.out.cell (i := 0) rfl
              have xc1 := BX.out.cell (i := 1) rfl
              have xf1 := BX.out.free 1
              have e1 : bw < wr.heap.size := by omega
              have e3 : bb < wr.heap.size := by omega
              have e5 : W1.heap.size < wr.heap.size := by omega
              have e6 : bw ≠ wo.heap.size := by omega
              have e7 : bb ≠ wo.heap.size := by omega
              have e8 : W1.heap.size ≠ wo.heap.size := by omega
              have HOB : Hid (∀ g, (Value.slice TA m tc).ownBlock = some g → wo.heap.size + 1 ≤ g ∧ g < wr.heap.size) := Lib.hid (fun g e => OT.out.lt g e)
              clear hx hy hl0
              obtain ⟨wi, rfl⟩ : ∃ x : World, x = wr := ⟨_, rfl⟩
              go_upto_region 13 with fail
              refine wp_region_held_drew (S := (fun w' => w'.cell? ⟨bw, m + 1, none⟩ = some (.slice (some ⟨bb, oo, none⟩) nn cc) ∧ w'.cell? ⟨W1.heap.size, m + 1, none⟩ = some (.int .i64 x) ∧ w'.cell? ⟨bb, oo + x, none⟩ = some (.int .i64 y))) (by kernel_rfl) ?_ (fun hHeld => ?_)
              · ((try dsimp only); (simp [go_sem, *]))
              refine wpAnyH_take (i := 0) (oi := _) (v := ?_) rfl (by kernel_rfl) (by kernel_rfl) (by kernel_rfl) (fun _ _ _ h => h) (Or.inl ⟨by rfl, ?_⟩) (by assumption) ?_
              rotate_left
              · (intro w hSw; (try dsimp only at hSw); go_simp; (try with_reducible rfl))
              (try simp only [Act.put, List.setIfInBounds_toArray, List.set_cons_zero, List.set_cons_succ])
              refine wpAnyH_take (i := 2) (oi := _) (v := ?_) rfl (by kernel_rfl) (by kernel_rfl) (by kernel_rfl) (fun _ _ _ h => h) (Or.inl ⟨by rfl, ?_⟩) (by assumption) ?_
              rotate_left
              · (intro w hSw; (try dsimp only at hSw); go_simp; (try with_reducible rfl))
              (try simp only [Act.put, List.setIfInBounds_toArray, List.set_cons_zero, List.set_cons_succ])
              refine wpAnyH_take (i := 3) (oi := _) (v := ?_) rfl (by kernel_rfl) (by kernel_rfl) (by kernel_rfl) (fun _ _ _ h => h) (Or.inl ⟨by rfl, ?_⟩) (by assumption) ?_
              rotate_left
              · (intro w hSw; (try dsimp only at hSw); go_simp; (try with_reducible rfl))
              (try simp only [Act.put, List.setIfInBounds_toArray, List.set_cons_zero, List.set_cons_succ])
              refine wpAnyH_take (i := 4) (oi := _) (v := ?_) rfl (by kernel_rfl) (by kernel_rfl) (by kernel_rfl) (fun _ _ _ h => h) (Or.inl ⟨by rfl, ?_⟩) (by assumption) ?_
              rotate_left
              · (intro w hSw; (try dsimp only at hSw); go_simp; (try with_reducible rfl))
              (try simp only [Act.put, List.setIfInBounds_toArray, List.set_cons_zero, List.set_cons_succ])
              refine wpAnyH_take (i := 5) (oi := _) (v := ?_) rfl (by kernel_rfl) (by kernel_rfl) (by kernel_rfl) (fun _ _ _ h => h) (Or.inl ⟨by rfl, ?_⟩) (by assumption) ?_
              rotate_left
              · (intro w hSw; (try dsimp only at hSw); go_simp; (try with_reducible rfl))
              (try simp only [Act.put, List.setIfInBounds_toArray, List.set_cons_zero, List.set_cons_succ])
              refine wpAnyH_take (i := 6) (oi := _) (v := ?_) rfl (by kernel_rfl) (by kernel_rfl) (by kernel_rfl) (fun _ _ _ h => h) (Or.inl ⟨by rfl, ?_⟩) (by assumption) ?_
              rotate_left
              · (intro w hSw; (try dsimp only at hSw); go_simp; (try with_reducible rfl))
              (try simp only [Act.put, List.setIfInBounds_toArray, List.set_cons_zero, List.set_cons_succ])
              refine wpAnyH_take (i := 7) (oi := _) (v := ?_) rfl (by kernel_rfl) (by kernel_rfl) (by kernel_rfl) (fun _ _ _ h => h) (Or.inl ⟨by rfl, ?_⟩) (by assumption) ?_
              rotate_left
              · (intro w hSw; (try dsimp only at hSw); go_simp; (try with_reducible rfl))
              (try simp only [Act.put, List.setIfInBounds_toArray, List.set_cons_zero, List.set_cons_succ])
              refine wpAnyH_take (i := 8) (oi := _) (v := ?_) rfl (by kernel_rfl) (by kernel_rfl) (by kernel_rfl) (fun _ _ _ h => h) (Or.inl ⟨by rfl, ?_⟩) (by assumption) ?_
              rotate_left
              · (intro w hSw; (try dsimp only at hSw); go_simp; (try with_reducible rfl))
              (try simp only [Act.put, List.setIfInBounds_toArray, List.set_cons_zero, List.set_cons_succ])
              refine wpAnyH_take (i := 9) (oi := _) (v := ?_) rfl (by kernel_rfl) (by kernel_rfl) (by kernel_rfl) (fun _ _ _ h => h) (Or.inl ⟨by rfl, ?_⟩) (by assumption) ?_
              rotate_left
              · (intro w hSw; (try dsimp only at hSw); go_simp; (try with_reducible rfl))
              (try simp only [Act.put, List.setIfInBounds_toArray, List.set_cons_zero, List.set_cons_succ])
              refine wpAnyH_take (i := 10) (oi := _) (v := ?_) rfl (by kernel_rfl) (by kernel_rfl) (by kernel_rfl) (fun _ _ _ h => h) (Or.inl ⟨by rfl, ?_⟩) (by assumption) ?_
              rotate_left
              · (intro w hSw; (try dsimp only at hSw); go_simp; (try with_reducible rfl))
              (try simp only [Act.put, List.setIfInBounds_toArray, List.set_cons_zero, List.set_cons_succ])
              refine wpAnyH_take (i := 11) (oi := _) (v := ?_) rfl (by kernel_rfl) (by kernel_rfl) (by kernel_rfl) (fun _ _ _ h => h) (Or.inl ⟨by rfl, ?_⟩) (by assumption) ?_
              rotate_left
              · (intro w hSw; (try dsimp only at hSw); go_simp; (try with_reducible rfl))
              (try simp only [Act.put, List.setIfInBounds_toArray, List.set_cons_zero, List.set_cons_succ])
              refine wpAnyH_ready (rs := [1, 12]) (by kernel_rfl) (by simp) ?_
              refine AllReadyH.cons (o := _) rfl (fun K hK => ?_) ?_
              · go_simp
                refine hK.out _ _ ?_ (fun hHeld => ?_)
                · ((try dsimp only); (simp [go_sem, *]))
                clear hK K
                (try simp only [Act.put, List.setIfInBounds_toArray, List.set_cons_zero, List.set_cons_succ])
                refine wpAnyH_ready (rs := [12]) (by kernel_rfl) (by simp) ?_
                refine AllReadyH.cons (o := _) rfl (fun K hK => ?_) AllReadyH.nil
                go_simp
                refine hK.out _ _ ?_ (fun hHeld => ?_)
                · ((try dsimp only); (simp [go_sem, *]))
                clear hK K
                (try simp only [Act.put, List.setIfInBounds_toArray, List.set_cons_zero, List.set_cons_succ])
                refine wpAnyH_ready (rs := [13]) (by kernel_rfl) (by simp) ?_
                refine AllReadyH.cons (o := _) rfl (fun K hK => ?_) AllReadyH.nil
                (refine step_append_rd _ (by rfl) _ _ _ (by rfl) (wo.heap.size + 1) 3 i0 _ 1 8 Tryd.underlying31 hi0 hz0 hz1 hz2 rfl (by omega) (.slice TA m tc) m (ints ((wordsAt (nearL rs) a).tail.take m)) (by rfl) (own_up OT.out (by go_grown)) _ (some ⟨wi.heap.size, 0, none⟩) 1 1 [.int .i64 y] (by rfl) (rdN_blk (Blk.new wi.drew 3 [.int .i64 y]) rfl) (one_intsN [y]) (by unfold maxLen; omega) (by omega) (by (try simp); omega) ?_; intro A5 c5 w5 ho5 hg5 ha5; have hs5 := hg5.size; (try simp at hs5); have O5 := Lib.hid ho5; have X5 := Lib.hid (((BX.out.drew).alloc (.cells #[.int .i64 y] 3)).gn hg5 (fun e => by have := HOB.out _ e; omega)); have L5 : Hid (Below wo.heap.size wi w5) := Lib.hid ((show Below wo.heap.size wi _ from (show Below wi.heap.size wi (wi.drew.alloc (.cells #[.int .i64 y] 3)) by go_grown).mono (by omega)).grown hg5 (by (try simp); omega) (fun b e => by have := HOB.out b e; omega)); have xc51 := X5.out.cell (i := 1) rfl; have xf51 := X5.out.free 1; have k5w := (L5.out.cell (p := ⟨bw, m + 1, none⟩) (show bw < wo.heap.size by omega)).trans kw; have k5p := (L5.out.cell (p := ⟨W1.heap.size, m + 1, none⟩) (show W1.heap.size < wo.heap.size by omega)).trans kp; have k5v := (L5.out.cell (p := ⟨bb, oo + x, none⟩) (show bb < wo.heap.size by omega)).trans kv; clear ho5 hg5 ha5)
                refine hK.out _ _ ?_ (fun hHeld => ?_)
                · ((try dsimp only); (simp [go_sem, *]))
                clear hK K
                (try simp only [Act.put, List.setIfInBounds_toArray, List.set_cons_zero, List.set_cons_succ])
                refine wpAnyH_take (i := 14) (oi := _) (v := ?_) rfl (by kernel_rfl) (by kernel_rfl) (by kernel_rfl) (fun _ _ _ h => h) (Or.inl ⟨by rfl, ?_⟩) (by assumption) ?_
                rotate_left
                · (intro w hSw; (try dsimp only at hSw); go_simp; (try with_reducible rfl))
                (try simp only [Act.put, List.setIfInBounds_toArray, List.set_cons_zero, List.set_cons_succ])
                refine wpAnyH_ready (rs := [15]) (by kernel_rfl) (by simp) ?_
                refine AllReadyH.cons (o := _) rfl (fun K hK => ?_) AllReadyH.nil
                go_simp
                refine hK.out _ _ ?_ (fun hHeld => ?_)
                · ((try dsimp only); (simp [go_sem, *]))
                clear hK K
                (try simp only [Act.put, List.setIfInBounds_toArray, List.set_cons_zero, List.set_cons_succ])
                refine wpAnyH_done (by kernel_rfl) ?_ _
                (go_wp2_with fail; go_roundg gj; (case measure => omega); (case rel => go_light; exact ⟨m + 1, A5, c5, by omega, by go_num, Lib.hid (X5.out.set_ 1 _), Lib.hid (by have ho := O5.out; rw [HY.out] at ho; exact ownsRow_setCell_below ho (a := ⟨wo.heap.size, 1, none⟩) (Nat.lt_succ_self _) _), Lib.hid ((BL.out.trans L5.out).setCell (p := ⟨wo.heap.size, 1, none⟩) (Nat.le_refl _) _), by simp; omega⟩))
              refine AllReadyH.cons (o := _) rfl (fun K hK => ?_) ?_
              · go_simp
                refine hK.out _ _ ?_ (fun hHeld => ?_)
                · ((try dsimp only); (simp [go_sem, *]))
                clear hK K
                (try simp only [Act.put, List.setIfInBounds_toArray, List.set_cons_zero, List.set_cons_succ])
                refine wpAnyH_ready (rs := [1]) (by kernel_rfl) (by simp) ?_
                refine AllReadyH.cons (o := _) rfl (fun K hK => ?_) AllReadyH.nil
                go_simp
                refine hK.out _ _ ?_ (fun hHeld => ?_)
                · ((try dsimp only); (simp [go_sem, *]))
                clear hK K
                (try simp only [Act.put, List.setIfInBounds_toArray, List.set_cons_zero, List.set_cons_succ])
                refine wpAnyH_ready (rs := [13]) (by kernel_rfl) (by simp) ?_
                refine AllReadyH.cons (o := _) rfl (fun K hK => ?_) AllReadyH.nil
                (refine step_append_rd _ (by rfl) _ _ _ (by rfl) (wo.heap.size + 1) 3 i0 _ 1 8 Tryd.underlying31 hi0 hz0 hz1 hz2 rfl (by omega) (.slice TA m tc) m (ints ((wordsAt (nearL rs) a).tail.take m)) (by rfl) (own_up OT.out (by go_grown)) _ (some ⟨wi.heap.size, 0, none⟩) 1 1 [.int .i64 y] (by rfl) (rdN_blk (Blk.new wi.drew 3 [.int .i64 y]) rfl) (one_intsN [y]) (by unfold maxLen; omega) (by omega) (by (try simp); omega) ?_; intro A5 c5 w5 ho5 hg5 ha5; have hs5 := hg5.size; (try simp at hs5); have O5 := Lib.hid ho5; have X5 := Lib.hid (((BX.out.drew).alloc (.cells #[.int .i64 y] 3)).gn hg5 (fun e => by have := HOB.out _ e; omega)); have L5 : Hid (Below wo.heap.size wi w5) := Lib.hid ((show Below wo.heap.size wi _ from (show Below wi.heap.size wi (wi.drew.alloc (.cells #[.int .i64 y] 3)) by go_grown).mono (by omega)).grown hg5 (by (try simp); omega) (fun b e => by have := HOB.out b e; omega)); have xc51 := X5.out.cell (i := 1) rfl; have xf51 := X5.out.free 1; have k5w := (L5.out.cell (p := ⟨bw, m + 1, none⟩) (show bw < wo.heap.size by omega)).trans kw; have k5p := (L5.out.cell (p := ⟨W1.heap.size, m + 1, none⟩) (show W1.heap.size < wo.heap.size by omega)).trans kp; have k5v := (L5.out.cell (p := ⟨bb, oo + x, none⟩) (show bb < wo.heap.size by omega)).trans kv; clear ho5 hg5 ha5)
                refine hK.out _ _ ?_ (fun hHeld => ?_)
                · ((try dsimp only); (simp [go_sem, *]))
                clear hK K
                (try simp only [Act.put, List.setIfInBounds_toArray, List.set_cons_zero, List.set_cons_succ])
                refine wpAnyH_take (i := 14) (oi := _) (v := ?_) rfl (by kernel_rfl) (by kernel_rfl) (by kernel_rfl) (fun _ _ _ h => h) (Or.inl ⟨by rfl, ?_⟩) (by assumption) ?_
                rotate_left
                · (intro w hSw; (try dsimp only at hSw); go_simp; (try with_reducible rfl))
                (try simp only [Act.put, List.setIfInBounds_toArray, List.set_cons_zero, List.set_cons_succ])
                refine wpAnyH_ready (rs := [15]) (by kernel_rfl) (by simp) ?_
                refine AllReadyH.cons (o := _) rfl (fun K hK => ?_) AllReadyH.nil
                go_simp
                refine hK.out _ _ ?_ (fun hHeld => ?_)
                · ((try dsimp only); (simp [go_sem, *]))
                clear hK K
                (try simp only [Act.put, List.setIfInBounds_toArray, List.set_cons_zero, List.set_cons_succ])
                refine wpAnyH_done (by kernel_rfl) ?_ _
                (go_wp2_with fail; go_roundg gj; (case measure => omega); (case rel => go_light; exact ⟨m + 1, A5, c5, by omega, by go_num, Lib.hid (X5.out.set_ 1 _), Lib.hid (by have ho := O5.out; rw [HY.out] at ho; exact ownsRow_setCell_below ho (a := ⟨wo.heap.size, 1, none⟩) (Nat.lt_succ_self _) _), Lib.hid ((BL.out.trans L5.out).setCell (p := ⟨wo.heap.size, 1, none⟩) (Nat.le_refl _) _), by simp; omega⟩))
              exact AllReadyH.nil
    · obtain ⟨gk, rfl⟩ : ∃ m, gk = m + 1 := ⟨gk - 1, by omega⟩
      have hk5 : k < 5 := by omega
      have hnw := nearL_at (rs := rs) hk5
      have HWC := Lib.hid (fun W h => l13Words_c A rs.length c rs e (k : Int) W hn h HBB.out)
      have hpos := nearW_pos rs (k : Int)
      generalize nearW rs (k : Int) = us at *
      have hob : ∀ b, (Value.slice A' k c').ownBlock = some b → w.heap.size + 1 ≤ b ∧ b < wr.heap.size := fun b hb => HO.out.lt b hb
      have HOB := Lib.hid hob
      clear hob
      go_wp2_with first
        | (go_at_call 28; refine (HWC.out _ (HR.out.upB (below_via HF.out (by go_grown)) (by (try simp); omega))).mono ?_; rintro e w1 ⟨A1, c1, rfl, o1, g1⟩; obtain ⟨b1, rfl, hb1, hb1'⟩ := ownN_some o1 hpos; have O1 := Lib.hid (own_base o1 (show w.heap.size + 1 ≤ _ by (try simp); omega)); have G1 : Hid (Below wr.heap.size wr w1) := Lib.hid (below_via (by go_grown) g1); have s1 := g1.size; (try simp at s1); clear o1 g1)
        | (at_builtin; go_must (refine wpList_append_rd _ rfl _ _ 62 rfl (w.heap.size + 1) 31 i1 _ 1 24 Tryd.underlying62 hi1 hy0 hy1 hy2 rfl (by omega) (.slice A' k c') k vs rfl (own_up HO.out (below_via G1.out (by go_grown))) _ (some ⟨w1.heap.size, 0, none⟩) 1 1 [.slice (some ⟨b1, 0, none⟩) us.length c1] rfl (rdN_blk (Blk.new w1 31 [.slice (some ⟨b1, 0, none⟩) us.length c1]) rfl) (fun u hu => by rw [List.mem_singleton.1 hu]; rfl) (by unfold maxLen; omega) (by omega) (by simp; omega) ?_; intro A5 c5 w5 ho5 hg5 ha5; have hs5 := hg5.size; (try simp at hs5)))
      go_roundg gk
      case measure => omega
      case rel =>
        go_light
        have HOK := own_up HO.out (w' := w1.alloc (.cells #[.slice (some ⟨b1, 0, none⟩) us.length c1] 31)) (below_via G1.out (by go_grown))
        have hW2 := ((HW.out.up G1.out).up (w' := w1.alloc (.cells #[.slice (some ⟨b1, 0, none⟩) us.length c1] 31)) (by go_grown)).kept HOK (by decide) hg5
        have hO2 : w5.ownsRow (w.heap.size + 1) 3 1 (.slice (some ⟨b1, 0, none⟩) us.length c1) us.length (ints us) := (own_up O1.out (w' := w1.alloc (.cells #[.slice (some ⟨b1, 0, none⟩) us.length c1] 31)) (by go_grown)).kept hg5 (.inr (fun e2 => by
          rcases HOK.2 with ⟨e3, _⟩ | ⟨g3, _, _, e3, _⟩
          · rw [e3] at e2; cases e2
          · exact own_unlike (own_up O1.out (w' := w1.alloc (.cells #[.slice (some ⟨b1, 0, none⟩) us.length c1] 31)) (by go_grown)) HOK (by decide) b1 rfl (by rw [← e2]; rfl)))
        have hvl : vs.length = k := by have := HO.out.1; omega
        refine ⟨k + 1, A5, c5, vs ++ [.slice (some ⟨b1, 0, none⟩) us.length c1], by omega, by go_num, rfl, Lib.hid ho5, Lib.hid (fun u hu => ?_), Lib.hid (hW2.snoc hvl hnw hO2), Lib.hid (((HX.out.up G1.out).alloc _).gn hg5 (fun e2 => by have := HOB.out _ e2; omega)), Lib.hid ((show Below w.heap.size w _ from below_via (below_via HF.out G1.out) (by go_grown)).grown hg5 (by (try simp); omega) (fun b e => by have := HOB.out b e; omega)), by omega⟩
        rcases List.mem_append.1 hu with hu | hu
        · exact HV.out u hu
        · rw [List.mem_singleton.1 hu]; rfl
end Go.Proofs.YtmfienlceobfeaaDoor
