/- FnTestHolds: for every text of bytes, and every second one, the law returns true and leaves its arguments as they were. No condition. -/
import Derived.Test.YtbijlencoilchaaOpen2
import Derived.Test.YtbijlencoilchaaTest2
import Derived.Test.YtbijlencoilchaaDraw6
import Derived.Test.YtbijlencoilchaaMask
import Derived.BigRegion
namespace Go.Proofs.Ytbijlencoilchaa
open Go.ChangeShapes Go.WideShapes Go.ChangeAt Go.RowKit
set_option linter.unusedVariables false
set_option linter.unnecessarySimpa false
theorem wgIn_c (n a b : Int) (w : World) : Calls Try.prog 29 #[.int .i64 n, .int .i64 a, .int .i64 b] w (RetW (.bool (decide (a ≤ n ∧ n ≤ b))) w) := by
  go_enter Try.func29, Try.ntmps29
  go_wp2
  all_goals go_returns
  all_goals (refine ⟨?_, rfl⟩)
  all_goals go_light
  all_goals simp; omega
theorem callB_true {num : Int} {zs : List Int} (h : callB num zs = true) : wordB num = true ∧ zs.length = 4 ∧ zs.all wordB = true := by
  simp [callB] at h
  exact ⟨h.1.1, h.1.2, by simpa using h.2⟩
theorem num_word (num : Int) (m : Nat) (h : wordB num = true) (hm : m ≤ 1048576) : wordB ((IntKind.i64.wrap (num + (m : Int))).tmod 1000) = true := by
  unfold wordB at h ⊢
  have h := of_decide_eq_true h
  have e : IntKind.i64.wrap (num + (m : Int)) = num + m := by rw [IntKind.wrap_i64]; omega
  rw [e, Int.tmod_eq_emod_of_nonneg (by omega)]
  simp
  omega
theorem set_words {ys : List Int} (h : ∀ y ∈ ys, wordB y = true) {k : Nat} {v : Int} (hv : wordB v = true) : ∀ y ∈ ys.set k v, wordB y = true := by
  intro y hy
  rcases List.mem_or_eq_of_mem_set hy with h1 | rfl
  · exact h y h1
  · exact hv
theorem and_word (a : Nat) (ha : a < 9223372036854775808) : wordB (bits .and .i64 (a : Int) 4294967295) = true := by
  have e := i64_and_nat a 4294967295 ha (by omega)
  have h2 : a &&& 4294967295 ≤ 4294967295 := Nat.and_le_right
  unfold wordB
  show decide (0 ≤ bits .and .i64 (a : Int) ((4294967295 : Nat) : Int) ∧ bits .and .i64 (a : Int) ((4294967295 : Nat) : Int) ≤ 4294967295) = true
  rw [e]
  simp
  omega
theorem and_word77 (m : Nat) (hm : m ≤ 1048576) : wordB (bits .and .i64 ((m : Int) * 77) 4294967295) = true := by
  have e : ((m : Int) * 77) = ((m * 77 : Nat) : Int) := by omega
  rw [e]
  exact and_word _ (by omega)
theorem below_set {B : Nat} {w wr : World} (h : Below B w wr) {g j : Nat} (hg : B ≤ g) {u : Value} : Below B w (wr.setCell ⟨g, j, none⟩ u) :=
  below_setCells h hg j [u]
theorem below_drew {B : Nat} {w wr : World} (h : Below B w wr) : Below B w wr.drew := ⟨h.os, h.tape, h.output, h.size, h.block⟩
theorem ints_one (zs : List Int) : ∀ u ∈ ints zs, u.oneCell' = true := by
  intro u hu
  obtain ⟨x, _, rfl⟩ := List.mem_map.1 hu
  rfl
theorem own_empty (w : World) (e : TypeId) (B E : Nat) (hE : w.heap.size = E) (hB : B ≤ E) : (w.alloc (.cells #[] e)).ownsRow B e 1 (.slice (some ⟨E, 0, none⟩) 0 0) 0 [] := by
  subst hE
  exact ⟨rfl, .inr ⟨w.heap.size, 0, #[], rfl, hB, heap_alloc_new w _, by omega, by unfold maxLen; omega, rfl, rfl⟩⟩
theorem src_cells {w : World} {B b off n : Nat} {us : List Value} (h : Rd w B 1 (some ⟨b, off, none⟩) n us) (hn : 0 < n) : ∀ j u, us[j]? = some u → w.cell? ((⟨b, off, none⟩ : Addr).add j) = some u := by
  intro j u hu
  obtain ⟨b', off', e, _, hc⟩ := h.2 hn
  injection e with e
  injection e with e1 e2
  subst e1 e2
  rw [add_norm]
  exact hc j u hu
theorem rd_cell {w : World} {B b off n j : Nat} {zs : List Int} {x : Int} (h : Rd w B 1 (some ⟨b, off, none⟩) n (ints zs)) (hn : 0 < n) (hx : zs[j]? = some x) : w.cell? ⟨b, off + j, none⟩ = some (.int .i64 x) := by
  have := src_cells h hn j _ (ints_at hx)
  rwa [add_norm] at this
set_option maxRecDepth 100000 in
set_option maxHeartbeats 8000000 in
theorem fnTestHolds_law (A : Option Addr) (n c : Nat) (xs : List Int) (B : Option Addr) (m d : Nat) (w : World) (hr : Rd w w.heap.size 1 A n (u8s xs)) (hx : ∀ x ∈ xs, 0 ≤ x ∧ x ≤ 255) (hc : n ≤ c) (hc2 : c ≤ 9223372036854775807) (hm : m ≤ 9223372036854775807) :
    Calls Try.prog 8 #[.slice A n c, .slice B m d] w (RetB (.bool true) w) := by
  have HR := Lib.hid hr
  have HX := Lib.hid hx
  clear hr hx
  by_cases hbig : n ≤ 1048576
  · have k1 : decide (1048576 < (n : Int)) = false := by simp; omega
    by_cases hbig2 : m ≤ 1048576
    · have k2 : decide (1048576 < (m : Int)) = false := by simp; omega
      obtain ⟨i0, hi0, hz0, hz1, hz2⟩ := info_parts info_int
      go_enter Try.func8, Try.ntmps8
      (go_wp2_with fail); (go_at_call 28; refine (drawTestHolds_c A n c xs _ (HR.out.upB (by go_grown) (by go_size)) HX.out hc hc2).mono ?_; rintro e w1 ⟨f, mm, op, x, num, A1, n1, c1, zs, rfl, O1, hn1, b1⟩; have s1 := b1.size; have H1 := below_via (w := w) (by go_grown) b1; have Z1 := Lib.hid O1.rd; have O1l := O1.1; have HO1 := Lib.hid O1; clear O1 b1)
      unfold testV
      (go_wp2_with fail); (go_at_call 27; refine (testHolds_c f mm op x num A1 n1 c1 zs _ (Z1.out.upB (by go_grown) (by go_size)) (by omega)).mono ?_; rintro e w2 ⟨rfl, b2⟩; obtain ⟨gc2, gf2⟩ := below_get b2; (try simp only [heap_drew, World.size_alloc, World.size_setCell] at gc2 gf2); have s2 := below_via (w := w1) (by go_grown) b2; have H2 := below_via H1 s2; have hs2 := b2.size; (try simp at hs2); have z2_0 : w1.heap.size < w2.heap.size := (by omega); have z2_1 : w1.heap.size + 1 < w2.heap.size := (by omega); clear b2)
      go_wp2_with fail
      go_region_held3 (fun w' => w'.cell? ⟨w1.heap.size, 0, none⟩ = some (.int .i64 f) ∧ w'.cell? ⟨w1.heap.size, 1, none⟩ = some (.int .i64 mm) ∧ w'.cell? ⟨w1.heap.size, 2, none⟩ = some (.int .i64 op) ∧ w'.cell? ⟨w1.heap.size, 3, none⟩ = some (.int .i64 x) ∧ w'.cell? ⟨w1.heap.size + 1, 0, none⟩ = some (.int .i64 num) ∧ w'.cell? ⟨w1.heap.size + 1, 1, none⟩ = some (.slice A1 n1 c1)) (simp [go_sem, *])
        (first
         | (go_at_call 25; refine (specTestHolds_c f mm op x num A1 n1 c1 zs _ ((Z1.out.up s2).upB (by go_grown) (by go_size)) (by omega)).mono ?_; rintro e w3 ⟨rfl, b3⟩; obtain ⟨gc3, gf3⟩ := below_get b3; (try simp only [heap_drew, World.size_alloc, World.size_setCell] at gc3 gf3); have s3 := below_via (w := w2) (by go_grown) b3; have H3 := below_via H2 s3; have hs3 := b3.size; (try simp at hs3); have z3_0 : w1.heap.size < w3.heap.size := (by omega); have z3_1 : w1.heap.size + 1 < w3.heap.size := (by omega); clear b3)
         | (go_at_call 18; refine (callOk_c num A1 n1 c1 zs _ (((Z1.out.up s2).up s3).upB (by go_grown) (by go_size)) (by omega)).mono ?_; rintro e w4 ⟨rfl, b4⟩; obtain ⟨gc4, gf4⟩ := below_get b4; (try simp only [heap_drew, World.size_alloc, World.size_setCell] at gc4 gf4); have s4 := below_via (w := w3) (by go_grown) b4; have H4 := below_via H3 s4; have hs4 := b4.size; (try simp at hs4); have z4_0 : w1.heap.size < w4.heap.size := (by omega); have z4_1 : w1.heap.size + 1 < w4.heap.size := (by omega); clear b4)
         | (go_at_call 16; refine (specCallOk_c num A1 n1 c1 zs _ ((((Z1.out.up s2).up s3).up s4).upB (by go_grown) (by go_size)) (by omega)).mono ?_; rintro e w5 ⟨rfl, b5⟩; obtain ⟨gc5, gf5⟩ := below_get b5; (try simp only [heap_drew, World.size_alloc, World.size_setCell] at gc5 gf5); have s5 := below_via (w := w4) (by go_grown) b5; have H5 := below_via H4 s5; have hs5 := b5.size; (try simp at hs5); have z5_0 : w1.heap.size < w5.heap.size := (by omega); have z5_1 : w1.heap.size + 1 < w5.heap.size := (by omega); clear b5))
      have hl1 : zs.length = n1 := O1l
      by_cases hcb : callB num zs = true
      · by_cases hf : 1 ≤ f ∧ f ≤ 4
        · have hfd : decide (1 ≤ f ∧ f ≤ 4) = true := by simp; omega
          by_cases hmm : 0 ≤ mm ∧ mm ≤ 4294967295
          · have hmd : decide (0 ≤ mm ∧ mm ≤ 4294967295) = true := by simp; omega
            obtain ⟨hnw, hl4, hzw⟩ := callB_true hcb
            go_upto_block 9 with (first
              | (go_at_call 16; refine (specCallOk_c num A1 n1 c1 zs _ (((((Z1.out.up s2).up s3).up s4).up s5).upB (by go_grown) (by go_size)) (by omega)).mono ?_; rintro e w6 ⟨rfl, b6⟩; obtain ⟨gc6, gf6⟩ := below_get b6; (try simp only [heap_drew, World.size_alloc, World.size_setCell] at gc6 gf6); have s6 := below_via (w := w5) (by go_grown) b6; have H6 := below_via H5 s6; have hs6 := b6.size; (try simp at hs6); have z6_0 : w1.heap.size < w6.heap.size := (by omega); have z6_1 : w1.heap.size + 1 < w6.heap.size := (by omega); clear b6)
              | (go_at_call 29; refine (wgIn_c _ _ _ _).mono ?_; rintro e w' ⟨rfl, rfl⟩))
            have hn4 : n1 = 4 := by omega
            subst hn4
            obtain ⟨b, off, rfl, hb0, hb1, hcell⟩ := HO1.out.2 (by omega)
            have Z6 := Lib.hid (((((((Z1.out.up s2).up s3).up s4).up s5).up s6).upB (by go_grown) (by go_size)))
            have q0 : w1.heap.size < w6.heap.size := by omega
            have T50 : w6.cell? ⟨w1.heap.size, 0, none⟩ = some (.int .i64 f) := by rename (World.cell? _ _ = _ ∧ _) => hh; exact (gc6 _ _ z5_0).trans hh.1
            have T51 : w6.cell? ⟨w1.heap.size, 1, none⟩ = some (.int .i64 mm) := by rename (World.cell? _ _ = _ ∧ _) => hh; exact (gc6 _ _ z5_0).trans hh.2.1
            have T52 : w6.cell? ⟨w1.heap.size, 2, none⟩ = some (.int .i64 op) := by rename (World.cell? _ _ = _ ∧ _) => hh; exact (gc6 _ _ z5_0).trans hh.2.2.1
            have T53 : w6.cell? ⟨w1.heap.size, 3, none⟩ = some (.int .i64 x) := by rename (World.cell? _ _ = _ ∧ _) => hh; exact (gc6 _ _ z5_0).trans hh.2.2.2.1
            have q1 : w1.heap.size + 1 < w6.heap.size := by omega
            have T60 : w6.cell? ⟨w1.heap.size + 1, 0, none⟩ = some (.int .i64 num) := by simp [*]
            have T61 : w6.cell? ⟨w1.heap.size + 1, 1, none⟩ = some (.slice (some ⟨b, off, none⟩) 4 c1) := by simp [*]
            have NW := Lib.hid (num_word num m hnw hbig2)
            go_cut [8] (fun v wx => ∃ (D gg cap : Nat) (num' : Int), v = .pointer (some ⟨D, 0, none⟩) ∧ wordB num' = true ∧ w6.heap.size ≤ D ∧ w6.heap.size ≤ gg ∧ gg ≠ D ∧ Hid (Blk wx D 35 [.int .i64 num', .slice (some ⟨gg, 0, none⟩) 4 cap]) ∧ Hid (Ow wx w6.heap.size (some ⟨gg, 0, none⟩) 4 zs) ∧ Hid (Below w6.heap.size w6 wx))
            case first =>
              go_region_law (first
                | (refine step_append_lies _ (by rfl) _ _ _ (by rfl) w6.heap.size 3 i0 _ 1 8 Try.underlying30 hi0 hz0 hz1 hz2 rfl (by omega) (.slice (some ⟨w6.heap.size, 0, none⟩) 0 0) 0 [] (by rfl) (own_empty w6 3 w6.heap.size w6.heap.size rfl (Nat.le_refl _)).drew ⟨b, off, none⟩ 4 c1 (ints zs) (by rfl) (by simp [ints, hl4]) (src_cells (Z6.out.upB (by go_grown) (by go_size)) (by omega)) (ints_one zs) (by omega) (by unfold maxLen; omega) (by omega) (by simp; try omega) _ rfl ?_; intro gg cap w7 hown7 hgr7 hat7 hlt7; simp only [Nat.zero_add, List.nil_append] at hown7; have O7 := Lib.hid (Ow.of_own (xs := zs) hown7); have hs7 := hgr7.size; simp at hs7; have G7a := gr_below (B := w6.heap.size) hgr7 (by simp) (by simp; try omega); have G7 : Hid (Below w6.heap.size w6 w7) := Lib.hid (Below.trans (by go_grown) G7a); clear G7a; obtain ⟨gc7, gf7⟩ := below_get G7.out; have y70 := (gc7 _ _ q1).trans T60; have y71 := (gc7 _ _ q1).trans T61; clear gc7 gf7; have q7 : w1.heap.size + 1 < w7.heap.size := (by omega); have q8 : w1.heap.size + 1 ≠ w7.heap.size := (by omega); have hgg : w6.heap.size ≤ gg := (by rcases hat7 with h | h <;> simp [Value.ownBlock] at h <;> omega); clear hown7 hgr7 hat7)
                | (refine step_append_lies _ (by rfl) _ _ _ (by rfl) w6.heap.size 3 i0 _ 1 8 Try.underlying30 hi0 hz0 hz1 hz2 rfl (by omega) (.slice (some ⟨w6.heap.size, 0, none⟩) 0 0) 0 [] (by rfl) ((own_empty w6 3 w6.heap.size w6.heap.size rfl (Nat.le_refl _)).alloc _).drew ⟨b, off, none⟩ 4 c1 (ints zs) (by rfl) (by simp [ints, hl4]) (src_cells (Z6.out.upB (by go_grown) (by go_size)) (by omega)) (ints_one zs) (by omega) (by unfold maxLen; omega) (by omega) (by simp; try omega) _ rfl ?_; intro gg cap w7 hown7 hgr7 hat7 hlt7; simp only [Nat.zero_add, List.nil_append] at hown7; have O7 := Lib.hid (Ow.of_own (xs := zs) hown7); have hs7 := hgr7.size; simp at hs7; have G7a := gr_below (B := w6.heap.size) hgr7 (by simp) (by simp; try omega); have G7 : Hid (Below w6.heap.size w6 w7) := Lib.hid (Below.trans (by go_grown) G7a); clear G7a; obtain ⟨gc7, gf7⟩ := below_get G7.out; have y70 := (gc7 _ _ q1).trans T60; have y71 := (gc7 _ _ q1).trans T61; clear gc7 gf7; have D7 := Lib.hid ((Blk.new (w6.alloc (.cells #[] 3)) 35 [.int .i64 0, .slice none 0 0]).drew.other hgr7 (by simp [Value.ownBlock])); have hgg : w6.heap.size ≤ gg ∧ gg ≠ w6.heap.size + 1 := (by rcases hat7 with h | h <;> simp [Value.ownBlock] at h <;> omega); simp only [World.size_alloc] at D7; have D70 := D7.out.cell (i := 0) rfl; have D71 := D7.out.cell (i := 1) rfl; have D7f := D7.out.free; clear hown7 hgr7 hat7)
                | (refine step_append_lies _ (by rfl) _ _ _ (by rfl) w6.heap.size 3 i0 _ 1 8 Try.underlying30 hi0 hz0 hz1 hz2 rfl (by omega) (.slice (some ⟨w6.heap.size + 1, 0, none⟩) 0 0) 0 [] (by rfl) (own_empty (w6.alloc (.cells #[.int .i64 0, .slice none 0 0] 35)) 3 w6.heap.size (w6.heap.size + 1) (by simp) (by omega)).drew ⟨b, off, none⟩ 4 c1 (ints zs) (by rfl) (by simp [ints, hl4]) (src_cells (Z6.out.upB (by go_grown) (by go_size)) (by omega)) (ints_one zs) (by omega) (by unfold maxLen; omega) (by omega) (by simp; try omega) _ rfl ?_; intro gg cap w7 hown7 hgr7 hat7 hlt7; simp only [Nat.zero_add, List.nil_append] at hown7; have O7 := Lib.hid (Ow.of_own (xs := zs) hown7); have hs7 := hgr7.size; simp at hs7; have G7a := gr_below (B := w6.heap.size) hgr7 (by simp) (by simp; try omega); have G7 : Hid (Below w6.heap.size w6 w7) := Lib.hid (Below.trans (by go_grown) G7a); clear G7a; obtain ⟨gc7, gf7⟩ := below_get G7.out; have y70 := (gc7 _ _ q1).trans T60; have y71 := (gc7 _ _ q1).trans T61; clear gc7 gf7; have D7 := Lib.hid (((Blk.new w6 35 [.int .i64 0, .slice none 0 0]).alloc _).drew.other hgr7 (by simp [Value.ownBlock])); have hgg : w6.heap.size ≤ gg ∧ gg ≠ w6.heap.size := (by rcases hat7 with h | h <;> simp [Value.ownBlock] at h <;> omega); have D70 := D7.out.cell (i := 0) rfl; have D71 := D7.out.cell (i := 1) rfl; have D7f := D7.out.free; clear hown7 hgr7 hat7))
              all_goals
                go_wp2_with fail
                go_meet
                first
                  | exact ⟨w7.heap.size, gg, cap, _, rfl, NW.out, by omega, by omega, by omega, Blk.new w7 35 [.int .i64 _, .slice (some ⟨gg, 0, none⟩) 4 cap], O7.out.up (Below.alloc (Below.refl _ _) (Nat.le_refl _) _), G7.out.trans (by go_grown)⟩
                  | exact ⟨w6.heap.size + 1, gg, cap, _, rfl, NW.out, by omega, by omega, by omega, (D7.out.set_ 0 _).set_ 1 _, (O7.out.far' (by simp; omega) _).far' (by simp; omega) _, G7.out.trans (by go_grown)⟩
                  | exact ⟨w6.heap.size, gg, cap, _, rfl, NW.out, by omega, by omega, by omega, (D7.out.set_ 0 _).set_ 1 _, (O7.out.far' (by simp; omega) _).far' (by simp; omega) _, G7.out.trans (by go_grown)⟩
            case rest =>
              obtain ⟨D, gg, cap, num', rfl, hnum', hD, hg, hne, HD, HO, HB⟩ := hcut
              go_wp2
              go_loopg [9] 4 (fun gk i wr => ∃ (k : Nat) (ys : List Int), gk + k = 4 ∧ i = .int .i64 k ∧ Hid (Blk wr D 35 [.int .i64 num', .slice (some ⟨gg, 0, none⟩) 4 cap]) ∧ Hid (Ow wr w6.heap.size (some ⟨gg, 0, none⟩) 4 ys) ∧ Hid (Below w6.heap.size w6 wr) ∧ Hid (∀ y ∈ ys, wordB y = true))
              case atStart => exact ⟨0, zs, rfl, rfl, HD, HO, HB, Lib.hid (by simpa using hzw)⟩
              case round =>
                obtain ⟨k, ys, hgk, rfl, HD, HO, HB, HW⟩ := hrel
                have c1 := HD.out.cell (i := 1) rfl
                by_cases hk : k < 4
                · obtain ⟨gk, rfl⟩ : ∃ m, gk = m + 1 := ⟨gk - 1, by omega⟩
                  obtain ⟨⟨z, oc⟩, of⟩ := HO.out.cellAt0 k hk
                  go_wp2
                  go_roundg gk
                  case measure => omega
                  case rel =>
                    go_light
                    exact ⟨k + 1, ys.set k _, by omega, by go_num, HD.out.far (by simp; omega) _, HO.out.put0 k _, HB.out.trans (by go_grown), set_words HW.out (and_word77 m hbig2)⟩
                · obtain rfl : k = 4 := by omega
                  obtain ⟨x0, hx0⟩ := some_at hl4 (k := f.toNat - 1) (by omega)
                  obtain ⟨gcr, gfr⟩ := below_get HB.out
                  have r0 := (gcr _ _ q0).trans T50
                  have r1 := (gcr _ _ q0).trans T51
                  have r2 := (gcr _ _ q1).trans T61
                  have r3 := (gcr b (off + (f.toNat - 1)) (by omega)).trans (rd_cell Z6.out (by omega) hx0)
                  have r4 := (gcr _ _ q0).trans T52
                  have r5 := (gcr _ _ q0).trans T53
                  clear gcr gfr
                  have c0 := HD.out.cell (i := 0) rfl
                  have g1 : w1.heap.size ≠ gg := by omega
                  have g2 : D ≠ gg := by omega
                  have H7 := below_via H6 HB.out
                  obtain ⟨⟨z, oc⟩, of⟩ := HO.out.cellAt0 (f.toNat - 1) (by omega)
                  have hq : IntKind.i64.wrap (f - 1) = f - 1 := by rw [IntKind.wrap_i64]; omega
                  have hqm : IntKind.i64.wrap (4294967295 - mm) = 4294967295 - mm := by rw [IntKind.wrap_i64]; omega
                  have hj0 : 0 ≤ f - 1 := by omega
                  have hj1 : f - 1 < 4 := by omega
                  have hx0w : 0 ≤ x0 ∧ x0 ≤ 4294967295 := by
                    have := List.all_eq_true.1 hzw x0 (List.mem_of_getElem? hx0)
                    simpa [wordB] using this
                  have HM := Lib.hid (mask_i64 x0 mm (m * 255) (by omega) hx0w.1 hx0w.2 hmm.1 hmm.2)
                  clear hx0w
                  go_upto_block 14 with (fail)
                  go_region
                  have X1 := Lib.hid (HO.out.put0 (f.toNat - 1) (bits .or .i64 (bits .and .i64 x0 mm) (bits .and .i64 ((m * 255 : Nat) : Int) (4294967295 - mm))))
                  have XT := Lib.hid (holds_masked (op := op) (x := x) (num := num) (num' := num') hf.1 hf.2 hcb hnum' HO.out.1 HW.out HM.out.1 hx0 HM.out.2)
                  go_wp2_with (go_at_call 27; refine (testHolds_c f mm op x num' (some ⟨gg, 0, none⟩) 4 cap (ys.set (f.toNat - 1) (bits .or .i64 (bits .and .i64 x0 mm) (bits .and .i64 ((m * 255 : Nat) : Int) (4294967295 - mm)))) _ (by first | exact X1.out.rd | exact X1.out.drew.rd | (have := X1.out.rd; simpa using this)) (by omega)).mono ?_; rintro e w9 ⟨rfl, b9⟩; skip)
                  go_returns
                  have e := XT.out
                  simp only [Int.natCast_mul, Int.cast_ofNat_Int] at e
                  have g3 : w.heap.size ≤ gg := by omega
                  refine ⟨?_, ?_⟩
                  · refine retv ?_
                    go_light
                    show Value.bool _ = Value.bool true
                    refine congrArg Value.bool ?_
                    exact beq_iff_eq.2 e
                  · exact below_via (w := w) (below_drew (below_set H7 g3)) b9
          · have hmd : decide (0 ≤ mm ∧ mm ≤ 4294967295) = false := by simp; omega
            have hth : testHoldsB f mm op x num zs = false := by
              have : testB f mm op x = false := by unfold testB; rw [show decide (1 ≤ f ∧ f ≤ 4 ∧ 1 ≤ mm ∧ mm ≤ 4294967295 ∧ 0 ≤ x ∧ x ≤ 4294967295) = false from by simp; omega]; rfl
              unfold testHoldsB; rw [this]; rfl
            go_wp2_with (first
              | (go_at_call 16; refine (specCallOk_c num A1 n1 c1 zs _ (((((Z1.out.up s2).up s3).up s4).up s5).upB (by go_grown) (by go_size)) (by omega)).mono ?_; rintro e w6 ⟨rfl, b6⟩; obtain ⟨gc6, gf6⟩ := below_get b6; (try simp only [heap_drew, World.size_alloc, World.size_setCell] at gc6 gf6); have s6 := below_via (w := w5) (by go_grown) b6; have H6 := below_via H5 s6; have hs6 := b6.size; (try simp at hs6); have z6_0 : w1.heap.size < w6.heap.size := (by omega); have z6_1 : w1.heap.size + 1 < w6.heap.size := (by omega); clear b6)
              | (go_at_call 29; refine (wgIn_c _ _ _ _).mono ?_; rintro e w' ⟨rfl, rfl⟩))
            go_returns
            exact ⟨rfl, by go_grown⟩
        · have hfd : decide (1 ≤ f ∧ f ≤ 4) = false := by simp; omega
          have hth : testHoldsB f mm op x num zs = false := by
            have : testB f mm op x = false := by unfold testB; rw [show decide (1 ≤ f ∧ f ≤ 4 ∧ 1 ≤ mm ∧ mm ≤ 4294967295 ∧ 0 ≤ x ∧ x ≤ 4294967295) = false from by simp; omega]; rfl
            unfold testHoldsB; rw [this]; rfl
          go_wp2_with (first
            | (go_at_call 16; refine (specCallOk_c num A1 n1 c1 zs _ (((((Z1.out.up s2).up s3).up s4).up s5).upB (by go_grown) (by go_size)) (by omega)).mono ?_; rintro e w6 ⟨rfl, b6⟩; obtain ⟨gc6, gf6⟩ := below_get b6; (try simp only [heap_drew, World.size_alloc, World.size_setCell] at gc6 gf6); have s6 := below_via (w := w5) (by go_grown) b6; have H6 := below_via H5 s6; have hs6 := b6.size; (try simp at hs6); have z6_0 : w1.heap.size < w6.heap.size := (by omega); have z6_1 : w1.heap.size + 1 < w6.heap.size := (by omega); clear b6)
            | (go_at_call 29; refine (wgIn_c _ _ _ _).mono ?_; rintro e w' ⟨rfl, rfl⟩))
          go_returns
          exact ⟨rfl, by go_grown⟩
      · have hcb : callB num zs = false := by simpa using hcb
        have hth : testHoldsB f mm op x num zs = false := by unfold testHoldsB; rw [hcb]; simp
        go_wp2_with (first
          | (go_at_call 16; refine (specCallOk_c num A1 n1 c1 zs _ (((((Z1.out.up s2).up s3).up s4).up s5).upB (by go_grown) (by go_size)) (by omega)).mono ?_; rintro e w6 ⟨rfl, b6⟩; obtain ⟨gc6, gf6⟩ := below_get b6; (try simp only [heap_drew, World.size_alloc, World.size_setCell] at gc6 gf6); have s6 := below_via (w := w5) (by go_grown) b6; have H6 := below_via H5 s6; have hs6 := b6.size; (try simp at hs6); have z6_0 : w1.heap.size < w6.heap.size := (by omega); have z6_1 : w1.heap.size + 1 < w6.heap.size := (by omega); clear b6)
          | (go_at_call 29; refine (wgIn_c _ _ _ _).mono ?_; rintro e w' ⟨rfl, rfl⟩))
        go_returns
        exact ⟨rfl, by go_grown⟩
    · have k2 : decide (1048576 < (m : Int)) = true := by simp; omega
      go_enter Try.func8, Try.ntmps8
      go_wp2
      go_returns
      exact ⟨rfl, by go_grown⟩
  · have k1 : decide (1048576 < (n : Int)) = true := by simp; omega
    go_enter Try.func8, Try.ntmps8
    go_wp2
    go_returns
    exact ⟨rfl, by go_grown⟩
theorem fnTestHolds_w (v0 v1 : Value) (W : World) (h0 : IsBytes W v0) (h1 : IsBytes W v1) : Calls Try.prog 8 #[v0, v1] W (RetB (.bool true) W) := by
  obtain ⟨A, n, c, xs, rfl, hr, hn, hcm, hx⟩ := h0
  obtain ⟨B, m, d, ys, rfl, hq, hm, hdm, hy⟩ := h1
  exact fnTestHolds_law A n c xs B m d W hr hx hn (by unfold maxLen at hcm; omega) (by unfold maxLen at hdm; omega)
set_option maxRecDepth 100000 in
theorem fnTestHolds_lifted (os : Os) (started : os.Started) (H : Type) (enc : TypeId × Value → H) :
    ReturnsInHanded {} Try.checked os 8 .any (Rows.fnTestHoldsSpec.pre6 enc Try.prog Try.f8 Rows.fnTestHoldsRow.domain false) (Rows.fnTestHoldsSpec.post enc Try.prog Try.f8 false true false false) := by
  refine returnsInHanded_of_change (C := Try.checked) own started (by kernel_rfl) Try.func8
    (ChangeSpec.witness6 (enc := enc) (C := Try.checked) false ⟨#[], #[.slice none 0 0, .slice none 0 0], []⟩ 8 (by kernel_rfl) (by kernel_rfl) (by kernel_rfl) (by kernel_rfl)) ?_
  intro W base args ds gs before hval0 hW hcnd _
  have hval : ∀ (j : Nat) t v, Try.f8.params[j]? = some t → args[j]? = some v → Value.okWide Try.prog W .any base t v := hval0
  have hW' := hW
  obtain ⟨p, q, hA0, hV, rfl, hfz, hnd⟩ := hW
  have hA : DataW.TrodAll enc Try.prog W 0 (fun _ => true) true Try.f8.params.toList args.toList ds p := hA0
  rw [Try.params8] at hA hval
  obtain ⟨v0, vs0, d0, ds0, p0, q0, hargs, rfl, rfl, h0, r0⟩ := trodAll_cons hA
  obtain ⟨v1, vs1, d1, ds1, p1, q1, rfl, rfl, rfl, h1, r1⟩ := trodAll_cons r0
  obtain ⟨rfl, rfl, rfl⟩ := trodAll_nil r1
  obtain rfl : args = #[v0, v1] := by cases args; simp_all
  obtain ⟨rfl, rfl⟩ := trodVars_none hV
  have k0 := h0
  have lt0 : ∀ x ∈ p0, x.block < W.heap.size := by obtain ⟨m, hm⟩ := k0; exact DataW.trod_lt m _ _ _ hm
  have o0 := open_Bytes (hval 0 52 v0 rfl rfl) h0
  have k1 := h1
  have lt1 : ∀ x ∈ p1, x.block < W.heap.size := by obtain ⟨m, hm⟩ := k1; exact DataW.trod_lt m _ _ _ hm
  have o1 := open_Bytes (hval 1 52 v1 rfl rfl) h1
  clear hA0 hval0
  refine (fnTestHolds_w v0 v1 W o0 o1).mono fun e W' ⟨he, bel⟩ => ?_
  subst he
  exact ⟨_, rfl, _, _, _, [], _, [], hW', trodAll_mk1 (shut_bool Try.underlying4 _), (trodAll_cons_mk (Below.trod laidOut (by kernel_rfl) (of_decide_eq_true (by kernel_rfl)) k0 bel lt0) (trodAll_cons_mk (Below.trod laidOut (by kernel_rfl) (of_decide_eq_true (by kernel_rfl)) k1 bel lt1) trodAll_mk0)), rfl, bel.frame _, fun h => by cases h⟩

theorem fnTestHolds_holds : Rows.FnTestHoldsSaid :=
  OpenClaim.holds_of_wide 8 Try.f8 rfl rfl rfl rfl rfl rfl rfl ⟨rfl, rfl, rfl, rfl, rfl⟩ rfl rfl rfl rfl rfl (by kernel_rfl) Try.func8 (by kernel_rfl)
    (of_decide_eq_true (by kernel_rfl)) (by unfold Func.isWrapper; rw [if_neg (of_decide_eq_false (by kernel_rfl))]; exact ⟨rfl, rfl⟩)
    (fun os started H enc _ => fnTestHolds_lifted os started H enc)
#print axioms fnTestHolds_holds
end Go.Proofs.Ytbijlencoilchaa
