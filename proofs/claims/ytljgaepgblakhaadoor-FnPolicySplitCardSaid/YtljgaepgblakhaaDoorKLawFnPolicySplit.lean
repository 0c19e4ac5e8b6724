/- FnPolicySplit: for all drawn bytes the law returns true: a rule of many numbers is as two of fewer. The tables are tied to the program's text. No condition. -/
import Derived.Test.YtljgaepgblakhaaDoorFnPol
import Derived.Test.YtljgaepgblakhaaDoorSplitI
namespace Go.Proofs.YtljgaepgblakhaaDoor
set_option linter.unusedSimpArgs false
open Go.ChangeShapes Go.WideShapes Go.ChangeAt Go.RowKit
set_option linter.unusedVariables false
set_option linter.unnecessarySimpa false
theorem OP.capLe {w : World} {lo hi ER ET n c : Nat} {A : Option Addr} {qs : List (Rl × Value)} (h : OP w lo hi ER ET A n c qs) : n ≤ c := by
  rcases h.own.2 with ⟨hv, h0⟩ | ⟨g, cap, cur, hv, _, _, h1, h2, _⟩
  · injection hv with a b d
    omega
  · injection hv with a b d
    subst a d
    exact h1
theorem split_cells {w : World} {t p : Nat} {v0 v1 a0 a1 a2 a3 b0 b1 b2 b3 : Value} {o : Obj} (p0 : w.cell? ⟨p, 0, none⟩ = some v0) (p1 : w.cell? ⟨p, 1, none⟩ = some v1) (hp : p < w.heap.size) :
    (fun w' : World => w'.cell? ⟨p, 0, none⟩ = some v0 ∧ w'.cell? ⟨p, 1, none⟩ = some v1 ∧ w'.cell? ⟨w.heap.size + 1, 0, none⟩ = some a0 ∧ w'.cell? ⟨w.heap.size + 1, 1, none⟩ = some a1 ∧ w'.cell? ⟨w.heap.size + 1, 2, none⟩ = some a2 ∧ w'.cell? ⟨w.heap.size + 1, 3, none⟩ = some a3 ∧
      w'.cell? ⟨w.heap.size + 1 + 1, 0, none⟩ = some b0 ∧ w'.cell? ⟨w.heap.size + 1 + 1, 1, none⟩ = some b1 ∧ w'.cell? ⟨w.heap.size + 1 + 1, 2, none⟩ = some b2 ∧ w'.cell? ⟨w.heap.size + 1 + 1, 3, none⟩ = some b3) (((w.alloc o).alloc (.cells #[a0, a1, a2, a3] t)).alloc (.cells #[b0, b1, b2, b3] t)) := by
  have hA : Blk (((w.alloc o).alloc (.cells #[a0, a1, a2, a3] t)).alloc (.cells #[b0, b1, b2, b3] t)) (w.heap.size + 1) t [a0, a1, a2, a3] := by
    have h := (Blk.new (w.alloc o) t [a0, a1, a2, a3]).alloc (.cells #[b0, b1, b2, b3] t)
    rwa [World.size_alloc] at h
  have hB : Blk (((w.alloc o).alloc (.cells #[a0, a1, a2, a3] t)).alloc (.cells #[b0, b1, b2, b3] t)) (w.heap.size + 1 + 1) t [b0, b1, b2, b3] := by
    have h := Blk.new ((w.alloc o).alloc (.cells #[a0, a1, a2, a3] t)) t [b0, b1, b2, b3]
    rwa [World.size_alloc, World.size_alloc] at h
  have hb : Below w.heap.size w (((w.alloc o).alloc (.cells #[a0, a1, a2, a3] t)).alloc (.cells #[b0, b1, b2, b3] t)) := by go_grown
  exact ⟨(hb.cell (p := ⟨p, 0, none⟩) hp).trans p0, (hb.cell (p := ⟨p, 1, none⟩) hp).trans p1, hA.cell (i := 0) rfl, hA.cell (i := 1) rfl, hA.cell (i := 2) rfl, hA.cell (i := 3) rfl, hB.cell (i := 0) rfl, hB.cell (i := 1) rfl, hB.cell (i := 2) rfl, hB.cell (i := 3) rfl⟩
theorem splS_below {w w' : World} {B p x y : Nat} {v0 v1 a0 a1 a2 a3 b0 b1 b2 b3 : Value}
    (h : w.cell? ⟨p, 0, none⟩ = some v0 ∧ w.cell? ⟨p, 1, none⟩ = some v1 ∧ w.cell? ⟨x, 0, none⟩ = some a0 ∧ w.cell? ⟨x, 1, none⟩ = some a1 ∧ w.cell? ⟨x, 2, none⟩ = some a2 ∧ w.cell? ⟨x, 3, none⟩ = some a3 ∧
      w.cell? ⟨y, 0, none⟩ = some b0 ∧ w.cell? ⟨y, 1, none⟩ = some b1 ∧ w.cell? ⟨y, 2, none⟩ = some b2 ∧ w.cell? ⟨y, 3, none⟩ = some b3) (hb : Below B w w') (hp : p < B) (hx : x < B) (hy : y < B) :
    w'.cell? ⟨p, 0, none⟩ = some v0 ∧ w'.cell? ⟨p, 1, none⟩ = some v1 ∧ w'.cell? ⟨x, 0, none⟩ = some a0 ∧ w'.cell? ⟨x, 1, none⟩ = some a1 ∧ w'.cell? ⟨x, 2, none⟩ = some a2 ∧ w'.cell? ⟨x, 3, none⟩ = some a3 ∧
      w'.cell? ⟨y, 0, none⟩ = some b0 ∧ w'.cell? ⟨y, 1, none⟩ = some b1 ∧ w'.cell? ⟨y, 2, none⟩ = some b2 ∧ w'.cell? ⟨y, 3, none⟩ = some b3 := by
  obtain ⟨h0, h1, h2, h3, h4, h5, h6, h7, h8, h9⟩ := h
  exact ⟨(hb.cell (p := ⟨p, 0, none⟩) hp).trans h0, (hb.cell (p := ⟨p, 1, none⟩) hp).trans h1, (hb.cell (p := ⟨x, 0, none⟩) hx).trans h2, (hb.cell (p := ⟨x, 1, none⟩) hx).trans h3, (hb.cell (p := ⟨x, 2, none⟩) hx).trans h4, (hb.cell (p := ⟨x, 3, none⟩) hx).trans h5,
    (hb.cell (p := ⟨y, 0, none⟩) hy).trans h6, (hb.cell (p := ⟨y, 1, none⟩) hy).trans h7, (hb.cell (p := ⟨y, 2, none⟩) hy).trans h8, (hb.cell (p := ⟨y, 3, none⟩) hy).trans h9⟩
theorem rcells_take (qs : List (Rl × Value)) (k : Nat) : (rcells qs).take (k * 4) = rcells (qs.take k) := by
  have e : rcells qs = rcells (qs.take k) ++ rcells (qs.drop k) := by rw [← rcells_app, List.take_append_drop]
  by_cases hk : k ≤ qs.length
  · have hl : (rcells (qs.take k)).length = k * 4 := by rw [rcells_len, List.length_take]; omega
    rw [e, ← hl, List.take_left]
  · rw [List.take_of_length_le (by rw [rcells_len]; omega), List.take_of_length_le (by omega)]
theorem rcells_drop (qs : List (Rl × Value)) (k : Nat) : (rcells qs).drop (k * 4) = rcells (qs.drop k) := by
  have e : rcells qs = rcells (qs.take k) ++ rcells (qs.drop k) := by rw [← rcells_app, List.take_append_drop]
  by_cases hk : k ≤ qs.length
  · have hl : (rcells (qs.take k)).length = k * 4 := by rw [rcells_len, List.length_take]; omega
    rw [e, ← hl, List.drop_left]
  · rw [List.drop_of_length_le (by rw [rcells_len]; omega), List.drop_of_length_le (by omega)]; rfl
theorem rd_take {w : World} {B n k : Nat} {A : Option Addr} {qs : List (Rl × Value)} (h : Rd w B 4 A n (rcells qs)) (hk : k ≤ n) : Rd w B 4 A k (rcells (qs.take k)) := by
  have hl := h.1
  rw [rcells_len] at hl
  refine ⟨by rw [rcells_len, List.length_take]; omega, fun hn => ?_⟩
  obtain ⟨b, off, e, hb, hc⟩ := h.2 (by omega)
  refine ⟨b, off, e, hb, fun j u hu => hc j u ?_⟩
  rw [← rcells_take, List.getElem?_take] at hu
  split at hu
  · exact hu
  · cases hu
theorem rd_drop {w : World} {B b n k : Nat} {A' : Option Addr} {qs : List (Rl × Value)} (h : Rd w B 4 (some ⟨b, 0, none⟩) n (rcells qs)) (hk : k < n) (hA : k + 1 < n → A' = some ⟨b, (k + 1) * 4, none⟩) : Rd w B 4 A' (n - (k + 1)) (rcells (qs.drop (k + 1))) := by
  have hl := h.1
  rw [rcells_len] at hl
  refine ⟨by rw [rcells_len, List.length_drop]; omega, fun hn => ?_⟩
  obtain ⟨b', off, e, hb, hc⟩ := h.2 (by omega)
  injection e with e
  injection e with e1 e2
  subst e1 e2
  refine ⟨b, (k + 1) * 4, hA (by omega), hb, fun j u hu => ?_⟩
  rw [← rcells_drop, List.getElem?_drop] at hu
  have := hc _ u hu
  rwa [Nat.zero_add] at this
theorem split_tst {w : World} {lo hi ET : Nat} {q qa qb : Rl × Value} {r : Rl} {mm : Int} {TA : Option Addr} {tc : Nat} (h : TO w lo hi ET q) (e1 : q.1 = r) (e2 : q.2 = .slice TA r.ts.length tc)
    (ha : qa = (⟨r.v, r.lo, mm, r.ts⟩, .slice TA r.ts.length tc)) (hb : qb = (⟨r.v, mm + 1, r.hi, r.ts⟩, .slice TA r.ts.length tc)) : ∀ x ∈ [qa, qb], TO w lo hi ET x := by
  intro x hx
  have ho := h.own
  have hh := h.high
  rw [e1, e2] at ho
  rw [e2] at hh
  rcases List.mem_cons.1 hx with rfl | hx
  · rw [ha]; exact ⟨ho, hh⟩
  · rw [List.mem_singleton.1 hx, hb]; exact ⟨ho, hh⟩
theorem rd_blk {w : World} {g t : Nat} {cs : List Value} {qs : List (Rl × Value)} {n : Nat} (h : Blk w g t cs) (e : cs = rcells qs) (hn : qs.length = n) : Rd w w.heap.size 4 (some ⟨g, 0, none⟩) n (rcells qs) := by
  subst e hn
  exact ⟨rcells_len qs, fun _ => ⟨g, 0, rfl, h.lt, fun j u hu => by rw [Nat.zero_add]; exact h.cell hu⟩⟩
set_option maxHeartbeats 8000000 in
set_option maxRecDepth 100000 in
theorem fnPolicySplit_law (A : Option Addr) (n c : Nat) (xs : List Int) (w : World) (hr : Rd w w.heap.size 1 A n (u8s xs)) (hx : ∀ x ∈ xs, 0 ≤ x ∧ x ≤ 255) (hc : n ≤ c) (hc2 : c ≤ 9223372036854775807) (hp : PT w w.heap.size) :
    Calls Tryd.prog 3 #[.slice A n c] w (RetB (.bool true) w) := by
  have HR := Lib.hid hr
  have HX := Lib.hid hx
  have HP := Lib.hid hp
  clear hr hx hp
  by_cases h1 : n ≤ 1048576
  · have k1 : decide (1048576 < (n : Int)) = false := by simp; omega
    go_enter Tryd.func3, Tryd.ntmps3
    (go_wp2_with fail); (go_at_call 14; refine (drawPolicyOf_c A n c xs _ (HR.out.upB (by go_grown) (by go_size)) HX.out hc hc2).mono ?_; rintro e w1 ⟨PA, pn, pc, qs, els, num, CA, cn, cc, zs, rfl, o1, hpn, hls, r1, hcn, b1⟩; have RP := Lib.hid o1.rd; have RC := Lib.hid r1.rd; have O1 := Lib.hid o1; have RV := Lib.hid (Rd.of_own o1.own); have HQN := Lib.hid o1.len; clear o1 r1 hls; obtain ⟨gc1, gf1⟩ := below_get b1; (try simp only [heap_drew, World.size_alloc, World.size_setCell] at gc1 gf1); have s1 := below_via (w := w) (by go_grown) b1; have H1 := s1; have hs1 := b1.size; (try simp at hs1); clear b1)
    obtain ⟨rs, hrs⟩ : ∃ rs, rs = rls qs := ⟨_, rfl⟩
    rw [← hrs] at RP
    have HRS := Lib.hid hrs
    clear hrs
    have hl1 := RP.out.1
    subst hl1
    have hl2 := RC.out.len1
    rw [ints_len] at hl2
    subst hl2
    obtain ⟨ok, cb, O, eok, ecb, eO, hI, hS, hKI, hKS, hCS⟩ := of_x rs els num zs (by omega) (by omega)
    have HI := Lib.hid hI
    have HS := Lib.hid hS
    have HKI := Lib.hid hKI
    have HKS := Lib.hid hKS
    have HCS := Lib.hid hCS
    have HOK := Lib.hid eok
    have HCB := Lib.hid ecb
    have HO := Lib.hid eO
    clear hI hS hKI hKS hCS eok ecb eO
    (go_wp2_with fail); (go_at_call 15; refine (HI.out _ _ _ _ _ (RP.out.upB (by go_grown) (by go_size)) (RC.out.upB (by go_grown) (by go_size)) ((HP.out.below (show Below w.heap.size w _ from below_via H1 (by go_grown))).more (by (try simp); omega))).mono ?_; rintro e w2 ⟨rfl, b2⟩; obtain ⟨gc2, gf2⟩ := below_get b2; (try simp only [heap_drew, World.size_alloc, World.size_setCell] at gc2 gf2); have s2 := below_via (w := w1) (by go_grown) b2; have H2 := below_via H1 s2; have hs2 := b2.size; (try simp at hs2); have z2_0 : w1.heap.size < w2.heap.size := (by omega); have z2_1 : w1.heap.size + 1 < w2.heap.size := (by omega); clear b2)
    cases ok with
    | false =>
      clear HO HOK HCB
      go_wp2_with fail
      go_region_held3 (fun w' => w'.cell? ⟨w1.heap.size, 0, none⟩ = some (.slice PA rs.length pc) ∧ w'.cell? ⟨w1.heap.size, 1, none⟩ = some (.int .i64 els) ∧ w'.cell? ⟨w1.heap.size + 1, 0, none⟩ = some (.int .i64 num) ∧ w'.cell? ⟨w1.heap.size + 1, 1, none⟩ = some (.slice CA zs.length cc)) (simp [go_sem, *])
        (first
         | (go_at_call 16; refine (HS.out _ _ _ _ _ ((RP.out.up s2).upB (by go_grown) (by go_size)) ((RC.out.up s2).upB (by go_grown) (by go_size))).mono ?_; rintro e w3 ⟨rfl, b3⟩; obtain ⟨gc3, gf3⟩ := below_get b3; (try simp only [heap_drew, World.size_alloc, World.size_setCell] at gc3 gf3); have s3 := below_via (w := w2) (by go_grown) b3; have H3 := below_via H2 s3; have hs3 := b3.size; (try simp at hs3); have z3_0 : w1.heap.size < w3.heap.size := (by omega); have z3_1 : w1.heap.size + 1 < w3.heap.size := (by omega); clear b3)
         | (go_at_call 17; refine (HKI.out _ _ _ (((RP.out.up s2).up s3).upB (by go_grown) (by go_size)) ((HP.out.below (show Below w.heap.size w _ from below_via H3 (by go_grown))).more (by (try simp); omega))).mono ?_; rintro e w4 ⟨rfl, b4⟩; obtain ⟨gc4, gf4⟩ := below_get b4; (try simp only [heap_drew, World.size_alloc, World.size_setCell] at gc4 gf4); have s4 := below_via (w := w3) (by go_grown) b4; have H4 := below_via H3 s4; have hs4 := b4.size; (try simp at hs4); have z4_0 : w1.heap.size < w4.heap.size := (by omega); have z4_1 : w1.heap.size + 1 < w4.heap.size := (by omega); clear b4)
         | (go_at_call 18; refine (HKS.out _ _ _ (((((RP.out.up s2).up s3).up s4).up s5).upB (by go_grown) (by go_size))).mono ?_; rintro e w6 ⟨rfl, b6⟩; obtain ⟨gc6, gf6⟩ := below_get b6; (try simp only [heap_drew, World.size_alloc, World.size_setCell] at gc6 gf6); have s6 := below_via (w := w5) (by go_grown) b6; have H6 := below_via H5 s6; have hs6 := b6.size; (try simp at hs6); have z6_0 : w1.heap.size < w6.heap.size := (by omega); have z6_1 : w1.heap.size + 1 < w6.heap.size := (by omega); clear b6)
         | (go_at_call 18; refine (HKS.out _ _ _ ((((RP.out.up s2).up s3).up s4).upB (by go_grown) (by go_size))).mono ?_; rintro e w5 ⟨rfl, b5⟩; obtain ⟨gc5, gf5⟩ := below_get b5; (try simp only [heap_drew, World.size_alloc, World.size_setCell] at gc5 gf5); have s5 := below_via (w := w4) (by go_grown) b5; have H5 := below_via H4 s5; have hs5 := b5.size; (try simp at hs5); have z5_0 : w1.heap.size < w5.heap.size := (by omega); have z5_1 : w1.heap.size + 1 < w5.heap.size := (by omega); clear b5))
      go_wp2_with fail
      go_region_held3 (fun w' => w'.cell? ⟨w1.heap.size, 0, none⟩ = some (.slice PA rs.length pc) ∧ w'.cell? ⟨w1.heap.size, 1, none⟩ = some (.int .i64 els) ∧ w'.cell? ⟨w1.heap.size + 1, 0, none⟩ = some (.int .i64 num) ∧ w'.cell? ⟨w1.heap.size + 1, 1, none⟩ = some (.slice CA zs.length cc)) (simp [go_sem, *])
        (first
         | (go_at_call 16; refine (HS.out _ _ _ _ _ ((((((RP.out.up s2).up s3).up s4).up s5).up s6).upB (by go_grown) (by go_size)) ((((((RC.out.up s2).up s3).up s4).up s5).up s6).upB (by go_grown) (by go_size))).mono ?_; rintro e w7 ⟨rfl, b7⟩; obtain ⟨gc7, gf7⟩ := below_get b7; (try simp only [heap_drew, World.size_alloc, World.size_setCell] at gc7 gf7); have s7 := below_via (w := w6) (by go_grown) b7; have H7 := below_via H6 s7; have hs7 := b7.size; (try simp at hs7); have z7_0 : w1.heap.size < w7.heap.size := (by omega); have z7_1 : w1.heap.size + 1 < w7.heap.size := (by omega); clear b7)
         | (go_at_call 17; refine (HKI.out _ _ _ (((((((RP.out.up s2).up s3).up s4).up s5).up s6).up s7).upB (by go_grown) (by go_size)) ((HP.out.below (show Below w.heap.size w _ from below_via H7 (by go_grown))).more (by (try simp); omega))).mono ?_; rintro e w8 ⟨rfl, b8⟩; obtain ⟨gc8, gf8⟩ := below_get b8; (try simp only [heap_drew, World.size_alloc, World.size_setCell] at gc8 gf8); have s8 := below_via (w := w7) (by go_grown) b8; have H8 := below_via H7 s8; have hs8 := b8.size; (try simp at hs8); have z8_0 : w1.heap.size < w8.heap.size := (by omega); have z8_1 : w1.heap.size + 1 < w8.heap.size := (by omega); clear b8)
         | (go_at_call 18; refine (HKS.out _ _ _ ((((((((RP.out.up s2).up s3).up s4).up s5).up s6).up s7).up s8).upB (by go_grown) (by go_size))).mono ?_; rintro e w9 ⟨rfl, b9⟩; obtain ⟨gc9, gf9⟩ := below_get b9; (try simp only [heap_drew, World.size_alloc, World.size_setCell] at gc9 gf9); have s9 := below_via (w := w8) (by go_grown) b9; have H9 := below_via H8 s9; have hs9 := b9.size; (try simp at hs9); have z9_0 : w1.heap.size < w9.heap.size := (by omega); have z9_1 : w1.heap.size + 1 < w9.heap.size := (by omega); clear b9))
      go_wp2
      go_returns
      exact ⟨rfl, by go_grown⟩
    | true =>
      have hok := HOK.out.symm
      have HKK := Lib.hid hok
      go_wp2_with fail
      go_region_held3 (fun w' => w'.cell? ⟨w1.heap.size, 0, none⟩ = some (.slice PA rs.length pc) ∧ w'.cell? ⟨w1.heap.size, 1, none⟩ = some (.int .i64 els) ∧ w'.cell? ⟨w1.heap.size + 1, 0, none⟩ = some (.int .i64 num) ∧ w'.cell? ⟨w1.heap.size + 1, 1, none⟩ = some (.slice CA zs.length cc)) (simp [go_sem, *])
        (first
         | (go_at_call 16; refine (HS.out _ _ _ _ _ ((RP.out.up s2).upB (by go_grown) (by go_size)) ((RC.out.up s2).upB (by go_grown) (by go_size))).mono ?_; rintro e w3 ⟨rfl, b3⟩; obtain ⟨gc3, gf3⟩ := below_get b3; (try simp only [heap_drew, World.size_alloc, World.size_setCell] at gc3 gf3); have s3 := below_via (w := w2) (by go_grown) b3; have H3 := below_via H2 s3; have hs3 := b3.size; (try simp at hs3); have z3_0 : w1.heap.size < w3.heap.size := (by omega); have z3_1 : w1.heap.size + 1 < w3.heap.size := (by omega); clear b3)
         | (go_at_call 17; refine (HKI.out _ _ _ (((RP.out.up s2).up s3).upB (by go_grown) (by go_size)) ((HP.out.below (show Below w.heap.size w _ from below_via H3 (by go_grown))).more (by (try simp); omega))).mono ?_; rintro e w4 ⟨rfl, b4⟩; obtain ⟨gc4, gf4⟩ := below_get b4; (try simp only [heap_drew, World.size_alloc, World.size_setCell] at gc4 gf4); have s4 := below_via (w := w3) (by go_grown) b4; have H4 := below_via H3 s4; have hs4 := b4.size; (try simp at hs4); have z4_0 : w1.heap.size < w4.heap.size := (by omega); have z4_1 : w1.heap.size + 1 < w4.heap.size := (by omega); clear b4)
         | (go_at_call 18; refine (HKS.out _ _ _ (((((RP.out.up s2).up s3).up s4).up s5).upB (by go_grown) (by go_size))).mono ?_; rintro e w6 ⟨rfl, b6⟩; obtain ⟨gc6, gf6⟩ := below_get b6; (try simp only [heap_drew, World.size_alloc, World.size_setCell] at gc6 gf6); have s6 := below_via (w := w5) (by go_grown) b6; have H6 := below_via H5 s6; have hs6 := b6.size; (try simp at hs6); have z6_0 : w1.heap.size < w6.heap.size := (by omega); have z6_1 : w1.heap.size + 1 < w6.heap.size := (by omega); clear b6)
         | (go_at_call 18; refine (HKS.out _ _ _ ((((RP.out.up s2).up s3).up s4).upB (by go_grown) (by go_size))).mono ?_; rintro e w5 ⟨rfl, b5⟩; obtain ⟨gc5, gf5⟩ := below_get b5; (try simp only [heap_drew, World.size_alloc, World.size_setCell] at gc5 gf5); have s5 := below_via (w := w4) (by go_grown) b5; have H5 := below_via H4 s5; have hs5 := b5.size; (try simp at hs5); have z5_0 : w1.heap.size < w5.heap.size := (by omega); have z5_1 : w1.heap.size + 1 < w5.heap.size := (by omega); clear b5))
      have HELD : w6.cell? ⟨w1.heap.size, 0, none⟩ = some (.slice PA rs.length pc) ∧ w6.cell? ⟨w1.heap.size, 1, none⟩ = some (.int .i64 els) ∧ w6.cell? ⟨w1.heap.size + 1, 0, none⟩ = some (.int .i64 num) ∧ w6.cell? ⟨w1.heap.size + 1, 1, none⟩ = some (.slice CA zs.length cc) := by assumption
      have T0 := Lib.hid HELD.1
      have T1 := Lib.hid HELD.2.1
      have T2 := Lib.hid HELD.2.2.1
      have T3 := Lib.hid HELD.2.2.2
      have R7 : Hid (RdR w6 w6.heap.size PA rs.length rs) := Lib.hid (((((((RP.out.up s2).up s3).up s4).up s5).up s6).upB (by go_grown) (by go_size)))
      have C7 : Hid (Rd w6 w6.heap.size 1 CA zs.length (ints zs)) := Lib.hid (((((((RC.out.up s2).up s3).up s4).up s5).up s6).upB (by go_grown) (by go_size)))
      have P7 : Hid (PT w6 w6.heap.size) := Lib.hid (((HP.out.below (show Below w.heap.size w _ from below_via H6 (by go_grown))).more (by (try simp); omega)))
      have hpl := (polOk_all hok).1
      have ALL := Lib.hid (polOk_all hok).2.1
      clear gc2 gf2 gc3 gf3 gc4 gf4 gc5 gf5 gc6 gf6 HELD hok
      go_wp2_with fail
      go_loopg [6] rs.length (fun gk i wr => ∃ (k : Nat), gk + k = rs.length ∧ i = .int .i64 k ∧ Hid (Below w6.heap.size w6 wr))
      case atStart => exact ⟨0, rfl, rfl, Below.refl _ _⟩
      case round =>
        obtain ⟨k, hgk, rfl, HW⟩ := hrel
        have hbs := HW.out.size
        have zp : w1.heap.size < wr.heap.size := by omega
        have zc : w1.heap.size + 1 < wr.heap.size := by omega
        have p0 := (HW.out.cell (p := ⟨w1.heap.size, 0, none⟩) (by simp; omega)).trans T0.out
        have p1 := (HW.out.cell (p := ⟨w1.heap.size, 1, none⟩) (by simp; omega)).trans T1.out
        have c0 := (HW.out.cell (p := ⟨w1.heap.size + 1, 0, none⟩) (by simp; omega)).trans T2.out
        have c1 := (HW.out.cell (p := ⟨w1.heap.size + 1, 1, none⟩) (by simp; omega)).trans T3.out
        by_cases hk : gk = 0
        · subst hk
          obtain rfl : k = rs.length := by omega
          go_wp2
          go_returns
          exact ⟨rfl, below_via H6 HW.out⟩
        · obtain ⟨gk, rfl⟩ : ∃ m, gk = m + 1 := ⟨gk - 1, by omega⟩
          have hlt : k < rs.length := by omega
          obtain ⟨b, off, r, rfl, hb, hp, TA, tc, d0, d1, d2, d3, hrt, hrl⟩ := (R7.out.up HW.out).rl hlt
          have HPK := Lib.hid hp
          have hrok : ruleB r = true := by have := ALL.out; rw [List.all_eq_true] at this; exact this r (List.mem_of_getElem? hp)
          obtain ⟨_, r0, r1, r2, _, _⟩ := rule_and hrok
          clear hp hrt hrok
          have hk0 : (0 : Int) ≤ (k : Int) := by omega
          have hk1 : (k : Int) < (rs.length : Int) := by omega
          by_cases heq : r.lo = r.hi
          · have heq' : (r.lo == r.hi) = true := by rw [heq]; exact beq_self_eq_true _
            clear heq
            go_wp2
            go_roundg gk
            case measure => omega
            case rel =>
              go_light
              exact ⟨k + 1, by omega, by go_num, Lib.hid (HW.out.alloc hbs _)⟩
          · have heq' : (r.lo == r.hi) = false := by rw [beq_eq_false_iff_ne]; exact heq
            clear heq
            go_upto_region 16 with (fail)
            have hne : r.lo ≠ r.hi := by rw [beq_eq_false_iff_ne] at heq'; exact heq'
            have OQ := (((((O1.out.up s2).up s3).up s4).up s5).up s6).up HW.out
            obtain ⟨gb, q, TA', tc', eA, glo, ghi, gsz, hq, hq2, _, _, _, e3, _, _⟩ := OQ.at_ hlt
            obtain ⟨e1, rfl⟩ : gb = b ∧ off = 0 := by injection eA with eA; injection eA with e1 e2; exact ⟨e1.symm, e2⟩
            subst e1
            have hqr : q.1 = r := by have h1 := rls_at hq; have h2 := HPK.out; rw [HRS.out, h1] at h2; injection h2
            have hqv : q.2 = .slice TA r.ts.length tc := by
              have d3' := d3
              rw [Nat.zero_add, e3] at d3'
              injection d3' with e
              rw [hq2, e]
            have hm1 : r.lo ≤ r.lo + (r.hi - r.lo) / 2 ∧ r.lo + (r.hi - r.lo) / 2 + 1 ≤ r.hi := by omega
            generalize r.lo + (r.hi - r.lo) / 2 = mm at *
            have hm2 := hm1.1
            have hm3 := hm1.2
            have SW : (fun w' : World => w'.cell? ⟨w1.heap.size, 0, none⟩ = some (.slice (some ⟨gb, 0, none⟩) rs.length pc) ∧ w'.cell? ⟨w1.heap.size, 1, none⟩ = some (.int .i64 els) ∧ w'.cell? ⟨wr.heap.size + 1, 0, none⟩ = some (.int .i64 r.v) ∧ w'.cell? ⟨wr.heap.size + 1, 1, none⟩ = some (.int .i64 r.lo) ∧ w'.cell? ⟨wr.heap.size + 1, 2, none⟩ = some (.int .i64 mm) ∧ w'.cell? ⟨wr.heap.size + 1, 3, none⟩ = some (.slice TA r.ts.length tc) ∧ w'.cell? ⟨wr.heap.size + 1 + 1, 0, none⟩ = some (.int .i64 r.v) ∧ w'.cell? ⟨wr.heap.size + 1 + 1, 1, none⟩ = some (.int .i64 (mm + 1)) ∧ w'.cell? ⟨wr.heap.size + 1 + 1, 2, none⟩ = some (.int .i64 r.hi) ∧ w'.cell? ⟨wr.heap.size + 1 + 1, 3, none⟩ = some (.slice TA r.ts.length tc)) (((wr.alloc (.cells #[.int .i64 r.v, .int .i64 r.lo, .int .i64 r.hi, .slice TA r.ts.length tc] 35)).alloc (.cells #[.int .i64 r.v, .int .i64 r.lo, .int .i64 mm, .slice TA r.ts.length tc] 35)).alloc (.cells #[.int .i64 r.v, .int .i64 (mm + 1), .int .i64 r.hi, .slice TA r.ts.length tc] 35)) := by
              exact split_cells p0 p1 zp
            have BW : Below wr.heap.size wr (((wr.alloc (.cells #[.int .i64 r.v, .int .i64 r.lo, .int .i64 r.hi, .slice TA r.ts.length tc] 35)).alloc (.cells #[.int .i64 r.v, .int .i64 r.lo, .int .i64 mm, .slice TA r.ts.length tc] 35)).alloc (.cells #[.int .i64 r.v, .int .i64 (mm + 1), .int .i64 r.hi, .slice TA r.ts.length tc] 35)) := by go_grown
            have zW : (((wr.alloc (.cells #[.int .i64 r.v, .int .i64 r.lo, .int .i64 r.hi, .slice TA r.ts.length tc] 35)).alloc (.cells #[.int .i64 r.v, .int .i64 r.lo, .int .i64 mm, .slice TA r.ts.length tc] 35)).alloc (.cells #[.int .i64 r.v, .int .i64 (mm + 1), .int .i64 r.hi, .slice TA r.ts.length tc] 35)).heap.size = wr.heap.size + 3 := by simp
            generalize (((wr.alloc (.cells #[.int .i64 r.v, .int .i64 r.lo, .int .i64 r.hi, .slice TA r.ts.length tc] 35)).alloc (.cells #[.int .i64 r.v, .int .i64 r.lo, .int .i64 mm, .slice TA r.ts.length tc] 35)).alloc (.cells #[.int .i64 r.v, .int .i64 (mm + 1), .int .i64 r.hi, .slice TA r.ts.length tc] 35)) = wW at *
            obtain ⟨i0, hi0, hz0, hz1, hz2⟩ := info_parts info_rule
            have HSW := Lib.hid SW
            have HBW := Lib.hid BW
            have OW := Lib.hid (OQ.up BW)
            have TQ : Hid (∀ x ∈ qs, TO wW w.heap.size w1.heap.size 83 x) := Lib.hid OW.out.tst
            have RQ : Hid (Rd wW wW.heap.size 4 (some ⟨gb, 0, none⟩) rs.length (rcells qs)) := Lib.hid (Rd.of_own OW.out.own)
            obtain ⟨qa, hqa⟩ : ∃ qa : Rl × Value, qa = (⟨r.v, r.lo, mm, r.ts⟩, .slice TA r.ts.length tc) := ⟨_, rfl⟩
            obtain ⟨qb, hqb⟩ : ∃ qb : Rl × Value, qb = (⟨r.v, mm + 1, r.hi, r.ts⟩, .slice TA r.ts.length tc) := ⟨_, rfl⟩
            have TQ2 : Hid (∀ x ∈ [qa, qb], TO wW w.heap.size w1.heap.size 83 x) := Lib.hid (split_tst (TQ.out q (List.mem_of_getElem? hq)) hqr hqv hqa hqb)
            have RQ1 : Hid (Rd wW wW.heap.size 4 (some ⟨gb, 0, none⟩) k (rcells (qs.take k))) := Lib.hid (rd_take RQ.out (by omega))
            have kwr : IntKind.i64.wrap ((k : Int) + 1) = (k : Int) + 1 := by rw [IntKind.wrap_i64]; omega
            have kto : ((k : Int) + 1).toNat = k + 1 := by omega
            have k16 : 0 ≤ (k : Int) + 1 ∧ (k : Int) + 1 ≤ (rs.length : Int) := by omega
            have kcap : rs.length ≤ pc := OW.out.capLe
            have kpc : k ≤ pc := by omega
            obtain ⟨AR2, hAR2⟩ : ∃ A2 : Option Addr, A2 = if pc = k + 1 then some ⟨gb, 0, none⟩ else some ⟨gb, (k + 1) * 4, none⟩ := ⟨_, rfl⟩
            have RQ2 : Hid (Rd wW wW.heap.size 4 AR2 (rs.length - (k + 1)) (rcells (qs.drop (k + 1)))) := Lib.hid (rd_drop RQ.out hlt fun hl => by rw [hAR2, if_neg (by omega)])
            have hab : rcells [qa, qb] = [.int .i64 r.v, .int .i64 r.lo, .int .i64 mm, .slice TA r.ts.length tc, .int .i64 r.v, .int .i64 (mm + 1), .int .i64 r.hi, .slice TA r.ts.length tc] := by rw [hqa, hqb]; rfl
            have zP : w1.heap.size < wW.heap.size := by omega
            have zX : wr.heap.size + 1 < wW.heap.size := by omega
            have zY : wr.heap.size + 1 + 1 < wW.heap.size := by omega
            have zw : w.heap.size ≤ wW.heap.size := by have := H6.size; omega
            have HQA := Lib.hid hqa
            have HQB := Lib.hid hqb
            clear hqa hqb SW BW d0 d1 d2 d3 e3 eA hq2 p0 p1 c0 c1 OQ
            go_cut [10] (fun v10 wx => ∃ (X : Nat) (A9 : Option Addr) (c9 : Nat), v10 = .pointer (some ⟨X, 0, none⟩) ∧ X < wx.heap.size ∧ Hid (Below wW.heap.size wW wx) ∧ Hid (Blk wx X 25 [.slice A9 (0 + k + 2 + (rs.length - (k + 1))) c9, .int .i64 els]) ∧ Hid (OP wx w.heap.size wx.heap.size 35 83 A9 (0 + k + 2 + (rs.length - (k + 1))) c9 ([] ++ qs.take k ++ [qa, qb] ++ qs.drop (k + 1))))
            · refine wp_region_invI [some 84, some 85, some 86, some 87, some 88, some 89, some 90, some 91, some 92, some 93, some 94, some 95, some 96, some 97, some 98, some 99, some 100, some 101, some 102, some 10, none]
                (SI 35 25 wW.heap.size wW (fun j => match j with | 0 => some (.pointer (some ⟨w1.heap.size, 1, none⟩)) | 1 => some (.int .i64 els) | 3 => some (.pointer (some ⟨w1.heap.size, 0, none⟩)) | 4 => some (.slice (some ⟨gb, 0, none⟩) rs.length pc) | 5 => some (.int .i64 k) | 6 => some (.slice (some ⟨gb, 0, none⟩) k pc) | 8 => some (.agg #[.int .i64 r.v, .int .i64 r.lo, .int .i64 mm, .slice TA r.ts.length tc]) | 9 => some (.agg #[.int .i64 r.v, .int .i64 (mm + 1), .int .i64 r.hi, .slice TA r.ts.length tc]) | 12 => some (.pointer (some ⟨w1.heap.size, 0, none⟩)) | 13 => some (.slice (some ⟨gb, 0, none⟩) rs.length pc) | 14 => some (.int .i64 k) | 15 => some (.int .i64 ((k : Int) + 1)) | 16 => some (.slice AR2 (rs.length - (k + 1)) (pc - (k + 1))) | _ => none) (0 + k) (0 + k + 2) (0 + k + 2 + (rs.length - (k + 1))) ([] ++ rcells (qs.take k)) ([] ++ rcells (qs.take k) ++ rcells [qa, qb]) ([] ++ rcells (qs.take k) ++ rcells [qa, qb] ++ rcells (qs.drop (k + 1))) [.int .i64 r.v, .int .i64 r.lo, .int .i64 mm, .slice TA r.ts.length tc, .int .i64 r.v, .int .i64 (mm + 1), .int .i64 r.hi, .slice TA r.ts.length tc] els)
                (by kernel_rfl) (by kernel_rfl) (fun u l hl => SI.start (by go_grown) hl) ?_ ?_
              · simp only [setAll, putS, List.zipIdx_cons, List.zipIdx_nil, List.foldl_cons, List.foldl_nil, Nat.reduceAdd, List.setIfInBounds_toArray, List.set_cons_zero, List.set_cons_succ]
                refine ⟨⟨rfl, fun l u w0 hl hd hI K hK => ?_⟩, ?_⟩
                · have hB := hI.low.size
                  go_simp
                  refine ka (hK (.pointer (some ⟨w1.heap.size, 1, none⟩)) w0 (hI.pure 0 _ (by decide) (fun x hx => by injection hx))) ?_
                  simp [updU, *]
                refine ⟨⟨rfl, fun l u w0 hl hd hI K hK => ?_⟩, ?_⟩
                · have hB := hI.low.size
                  have e0 : u 0 = .pointer (some ⟨w1.heap.size, 1, none⟩) := hI.exq 0 _ rfl (hd 0 (of_decide_eq_true (by kernel_rfl)))
                  obtain ⟨q0, q1, a0, a1, a2, a3, b0, b1, b2, b3⟩ := splS_below HSW.out hI.low zP zX zY
                  go_simp
                  refine ka (hK (.int .i64 els) w0 (hI.pure 1 _ (by decide) (fun x hx => by injection hx))) ?_
                  simp [updU, *]
                refine ⟨⟨rfl, fun l u w0 hl hd hI K hK => ?_⟩, ?_⟩
                · have hB := hI.low.size
                  go_simp
                  refine ka (hK _ _ (hI.op2 hB hl rfl)) ?_
                  simp [updU, *]
                refine ⟨⟨rfl, fun l u w0 hl hd hI K hK => ?_⟩, ?_⟩
                · have hB := hI.low.size
                  go_simp
                  refine ka (hK (.pointer (some ⟨w1.heap.size, 0, none⟩)) w0 (hI.pure 3 _ (by decide) (fun x hx => by injection hx))) ?_
                  simp [updU, *]
                refine ⟨⟨rfl, fun l u w0 hl hd hI K hK => ?_⟩, ?_⟩
                · have hB := hI.low.size
                  have e3 : u 3 = .pointer (some ⟨w1.heap.size, 0, none⟩) := hI.exq 3 _ rfl (hd 3 (of_decide_eq_true (by kernel_rfl)))
                  obtain ⟨q0, q1, a0, a1, a2, a3, b0, b1, b2, b3⟩ := splS_below HSW.out hI.low zP zX zY
                  go_simp
                  refine ka (hK (.slice (some ⟨gb, 0, none⟩) rs.length pc) w0 (hI.pure 4 _ (by decide) (fun x hx => by injection hx))) ?_
                  simp [updU, *]
                refine ⟨⟨rfl, fun l u w0 hl hd hI K hK => ?_⟩, ?_⟩
                · have hB := hI.low.size
                  go_simp
                  refine ka (hK (.int .i64 k) w0 (hI.pure 5 _ (by decide) (fun x hx => by injection hx))) ?_
                  simp [updU, *]
                refine ⟨⟨rfl, fun l u w0 hl hd hI K hK => ?_⟩, ?_⟩
                · have hB := hI.low.size
                  have e4 : u 4 = .slice (some ⟨gb, 0, none⟩) rs.length pc := hI.exq 4 _ rfl (hd 4 (of_decide_eq_true (by kernel_rfl)))
                  have e5 : u 5 = .int .i64 k := hI.exq 5 _ rfl (hd 5 (of_decide_eq_true (by kernel_rfl)))
                  have hAR := hAR2
                  go_simp
                  refine ka (hK (.slice (some ⟨gb, 0, none⟩) k pc) w0 (hI.pure 6 _ (by decide) (fun x hx => by injection hx))) ?_
                  simp [updU, *]
                refine ⟨⟨rfl, fun l u w0 hl hd hI K hK => ?_⟩, ?_⟩
                · have hB := hI.low.size
                  obtain ⟨bE, e2, o2⟩ := hI.s2 (hd 2 (of_decide_eq_true (by kernel_rfl))) hl
                  have e6 : u 6 = .slice (some ⟨gb, 0, none⟩) k pc := hI.exq 6 _ rfl (hd 6 (of_decide_eq_true (by kernel_rfl)))
                  refine wp_append_rd w0 _ _ 23 rfl wW.heap.size 35 i0 _ 4 48 Tryd.underlying23 hi0 hz0 hz1 hz2 rfl (by omega) (.slice (some ⟨bE, 0, none⟩) 0 0) 0 [] e2 o2 _ (some ⟨gb, 0, none⟩) k pc (rcells (qs.take k)) e6 (RQ1.out.upB hI.low hB) (one_rcells (fun x hx => TQ.out x (List.mem_of_mem_take hx))) (by unfold maxLen; omega) (by omega) hB ?_
                  intro A1 c1' w' h1 h2 h3
                  exact hK _ w' (hI.op7 hB (by decide) hl (hd 2 (of_decide_eq_true (by kernel_rfl))) rfl (by rw [e2]; exact h2) h1)
                refine ⟨⟨rfl, fun l u w0 hl hd hI K hK => ?_⟩, ?_⟩
                · have hB := hI.low.size
                  obtain ⟨q0, q1, a0, a1, a2, a3, b0, b1, b2, b3⟩ := splS_below HSW.out hI.low zP zX zY
                  go_simp
                  refine ka (hK (.agg #[.int .i64 r.v, .int .i64 r.lo, .int .i64 mm, .slice TA r.ts.length tc]) w0 (hI.pure 8 _ (by decide) (fun x hx => by injection hx))) ?_
                  simp [updU, *]
                refine ⟨⟨rfl, fun l u w0 hl hd hI K hK => ?_⟩, ?_⟩
                · have hB := hI.low.size
                  obtain ⟨q0, q1, a0, a1, a2, a3, b0, b1, b2, b3⟩ := splS_below HSW.out hI.low zP zX zY
                  go_simp
                  refine ka (hK (.agg #[.int .i64 r.v, .int .i64 (mm + 1), .int .i64 r.hi, .slice TA r.ts.length tc]) w0 (hI.pure 9 _ (by decide) (fun x hx => by injection hx))) ?_
                  simp [updU, *]
                refine ⟨⟨rfl, fun l u w0 hl hd hI K hK => ?_⟩, ?_⟩
                · have hB := hI.low.size
                  have e8 : u 8 = .agg #[.int .i64 r.v, .int .i64 r.lo, .int .i64 mm, .slice TA r.ts.length tc] := hI.exq 8 _ rfl (hd 8 (of_decide_eq_true (by kernel_rfl)))
                  have e9 : u 9 = .agg #[.int .i64 r.v, .int .i64 (mm + 1), .int .i64 r.hi, .slice TA r.ts.length tc] := hI.exq 9 _ rfl (hd 9 (of_decide_eq_true (by kernel_rfl)))
                  go_simp
                  refine ka (hK _ _ (hI.op10 hB hl rfl)) ?_
                  simp [updU, *]
                refine ⟨⟨rfl, fun l u w0 hl hd hI K hK => ?_⟩, ?_⟩
                · have hB := hI.low.size
                  obtain ⟨A7, c7, e7, o7⟩ := hI.s7 (hd 7 (of_decide_eq_true (by kernel_rfl))) hl
                  obtain ⟨g10, e10, p10, _⟩ := hI.s10 (hd 10 (of_decide_eq_true (by kernel_rfl))) hl
                  refine wp_append_rd w0 _ _ 23 rfl wW.heap.size 35 i0 _ 4 48 Tryd.underlying23 hi0 hz0 hz1 hz2 rfl (by omega) (.slice A7 (0 + k) c7) (0 + k) ([] ++ rcells (qs.take k)) e7 o7 _ (some ⟨g10, 0, none⟩) 2 2 (rcells [qa, qb]) e10 (rd_blk p10 hab.symm rfl) (one_rcells TQ2.out) (by unfold maxLen; omega) (by omega) hB ?_
                  intro A1 c1' w' h1 h2 h3
                  exact hK _ w' (hI.op11 hB (by decide) hl (hd 7 (of_decide_eq_true (by kernel_rfl))) (hd 10 (of_decide_eq_true (by kernel_rfl))) rfl (by rw [e7]; exact h2) h1)
                refine ⟨⟨rfl, fun l u w0 hl hd hI K hK => ?_⟩, ?_⟩
                · have hB := hI.low.size
                  go_simp
                  refine ka (hK (.pointer (some ⟨w1.heap.size, 0, none⟩)) w0 (hI.pure 12 _ (by decide) (fun x hx => by injection hx))) ?_
                  simp [updU, *]
                refine ⟨⟨rfl, fun l u w0 hl hd hI K hK => ?_⟩, ?_⟩
                · have hB := hI.low.size
                  have e12 : u 12 = .pointer (some ⟨w1.heap.size, 0, none⟩) := hI.exq 12 _ rfl (hd 12 (of_decide_eq_true (by kernel_rfl)))
                  obtain ⟨q0, q1, a0, a1, a2, a3, b0, b1, b2, b3⟩ := splS_below HSW.out hI.low zP zX zY
                  go_simp
                  refine ka (hK (.slice (some ⟨gb, 0, none⟩) rs.length pc) w0 (hI.pure 13 _ (by decide) (fun x hx => by injection hx))) ?_
                  simp [updU, *]
                refine ⟨⟨rfl, fun l u w0 hl hd hI K hK => ?_⟩, ?_⟩
                · have hB := hI.low.size
                  go_simp
                  refine ka (hK (.int .i64 k) w0 (hI.pure 14 _ (by decide) (fun x hx => by injection hx))) ?_
                  simp [updU, *]
                refine ⟨⟨rfl, fun l u w0 hl hd hI K hK => ?_⟩, ?_⟩
                · have hB := hI.low.size
                  have e14 : u 14 = .int .i64 k := hI.exq 14 _ rfl (hd 14 (of_decide_eq_true (by kernel_rfl)))
                  go_simp
                  refine ka (hK (.int .i64 ((k : Int) + 1)) w0 (hI.pure 15 _ (by decide) (fun x hx => by injection hx))) ?_
                  simp [updU, *]
                refine ⟨⟨rfl, fun l u w0 hl hd hI K hK => ?_⟩, ?_⟩
                · have hB := hI.low.size
                  have e13 : u 13 = .slice (some ⟨gb, 0, none⟩) rs.length pc := hI.exq 13 _ rfl (hd 13 (of_decide_eq_true (by kernel_rfl)))
                  have e15 : u 15 = .int .i64 ((k : Int) + 1) := hI.exq 15 _ rfl (hd 15 (of_decide_eq_true (by kernel_rfl)))
                  have hAR := hAR2
                  go_simp
                  refine ka (hK (.slice AR2 (rs.length - (k + 1)) (pc - (k + 1))) w0 (hI.pure 16 _ (by decide) (fun x hx => by injection hx))) ?_
                  simp [updU, *]
                refine ⟨⟨rfl, fun l u w0 hl hd hI K hK => ?_⟩, ?_⟩
                · have hB := hI.low.size
                  obtain ⟨A11, c11, e11, o11⟩ := hI.s11 (hd 11 (of_decide_eq_true (by kernel_rfl))) hl
                  have e16 : u 16 = .slice AR2 (rs.length - (k + 1)) (pc - (k + 1)) := hI.exq 16 _ rfl (hd 16 (of_decide_eq_true (by kernel_rfl)))
                  refine wp_append_rd w0 _ _ 23 rfl wW.heap.size 35 i0 _ 4 48 Tryd.underlying23 hi0 hz0 hz1 hz2 rfl (by omega) (.slice A11 (0 + k + 2) c11) (0 + k + 2) ([] ++ rcells (qs.take k) ++ rcells [qa, qb]) e11 o11 _ AR2 (rs.length - (k + 1)) (pc - (k + 1)) (rcells (qs.drop (k + 1))) e16 (RQ2.out.upB hI.low hB) (one_rcells (fun x hx => TQ.out x (List.mem_of_mem_drop hx))) (by unfold maxLen; omega) (by omega) hB ?_
                  intro A1 c1' w' h1 h2 h3
                  exact hK _ w' (hI.op17 hB (by decide) hl (hd 11 (of_decide_eq_true (by kernel_rfl))) rfl (by rw [e11]; exact h2) h1)
                refine ⟨⟨rfl, fun l u w0 hl hd hI K hK => ?_⟩, ?_⟩
                · have hB := hI.low.size
                  obtain ⟨A17, c17, e17, o17⟩ := hI.s17 (hd 17 (of_decide_eq_true (by kernel_rfl)))
                  have e1 : u 1 = .int .i64 els := hI.exq 1 _ rfl (hd 1 (of_decide_eq_true (by kernel_rfl)))
                  have hk := hK _ w0 (hI.op18 hl (hd 17 (of_decide_eq_true (by kernel_rfl))) rfl e17)
                  go_simp
                  refine ka hk ?_
                  simp [updU, *]
                refine ⟨⟨rfl, fun l u w0 hl hd hI K hK => ?_⟩, ?_⟩
                · have hB := hI.low.size
                  go_simp
                  refine ka (hK _ _ (hI.op19 hB hl rfl _ _)) ?_
                  simp [updU, *]
                refine ⟨⟨rfl, fun l u w0 hl hd hI K hK => ?_⟩, ?_⟩
                · have hB := hI.low.size
                  obtain ⟨A18, c18, e18, o18⟩ := hI.s18 (hd 18 (of_decide_eq_true (by kernel_rfl)))
                  obtain ⟨X, v0, v1, e19, hX, pX⟩ := hI.s19 (hd 19 (of_decide_eq_true (by kernel_rfl)))
                  have x0 := pX.cell (i := 0) rfl
                  have x1 := pX.cell (i := 1) rfl
                  have xf := pX.free
                  have hk := hK _ _ (hI.op20 (by decide) hl (hd 18 (of_decide_eq_true (by kernel_rfl))) (hd 19 (of_decide_eq_true (by kernel_rfl))) rfl undef e18 e19)
                  simp only [Nat.zero_add] at hk
                  go_simp
                  refine ka hk ?_
                  simp [updU, *]
                exact trivial
              · intro l u w0 hall hI
                obtain ⟨X, A9, c9, e19, hX, pX, oX⟩ := hI.s20 (hall 20 (by decide))
                have hlow := Lib.hid hI.low
                have HBX := Lib.hid pX
                have HOX := Lib.hid oX
                have hltX := pX.lt
                have TX : ∀ x ∈ [] ++ qs.take k ++ [qa, qb] ++ qs.drop (k + 1), TO w0 w.heap.size w0.heap.size 83 x := by
                  have hsz := hI.low.size
                  have k1 : ∀ x ∈ qs, TO w0 w.heap.size w0.heap.size 83 x := fun x hx => ((TQ.out x hx).up hI.low).wide (Nat.le_refl _) (by omega)
                  intro x hx
                  rcases List.mem_append.1 hx with hx | hx
                  · rcases List.mem_append.1 hx with hx | hx
                    · exact k1 x (List.mem_of_mem_take (by simpa using hx))
                    · exact ((TQ2.out x hx).up hI.low).wide (Nat.le_refl _) (by omega)
                  · exact k1 x (List.mem_of_mem_drop hx)
                have OX := Lib.hid (show OP w0 w.heap.size w0.heap.size 35 83 A9 (0 + k + 2 + (rs.length - (k + 1))) c9 ([] ++ qs.take k ++ [qa, qb] ++ qs.drop (k + 1)) from ⟨by rw [rcells_app, rcells_app, rcells_app]; exact own_base HOX.out zw, fun g hg => (HOX.out.lt g hg).2, TX⟩)
                simp only [setAll, putS, List.zipIdx_cons, List.zipIdx_nil, List.foldl_cons, List.foldl_nil, Nat.reduceAdd, List.setIfInBounds_toArray, List.set_cons_zero, List.set_cons_succ]
                rw [e19]
                clear hI hall pX oX TX
                (try go_wp2_with fail)
                go_meet
                exact ⟨X, A9, c9, rfl, hltX, hlow, HBX, OX⟩
            · obtain ⟨X, A9, c9, rfl, hX, HBc, HPX, HOP⟩ := hcut
              obtain ⟨N9, hN9⟩ : ∃ N, N = 0 + k + 2 + (rs.length - (k + 1)) := ⟨_, rfl⟩
              rw [← hN9] at HPX HOP
              have hN8 : N9 ≤ 100 := by omega
              clear hN9
              have Hc := Lib.hid (below_via (below_via HW.out HBW.out) HBc.out)
              have hQ : rls ([] ++ qs.take k ++ [qa, qb] ++ qs.drop (k + 1)) = splitR rs k r mm := by
                unfold splitR
                rw [HRS.out, HQA.out, HQB.out]
                simp [rls, List.map_take, List.map_drop]
              have RN := HOP.out.rd
              rw [hQ] at RN
              have hlen := RN.1
              have hsp := split_law (e := els) (num := num) (xs := zs) HPK.out hm2 (by omega)
              generalize splitR rs k r mm = SR at *
              obtain ⟨ok2, cb2, O2, eok2, ecb2, eO2, hI2, hx1, hx2, hKS2, hx3⟩ := of_x SR els num zs (by omega) (by omega)
              have hO2 : ok2 = true → O2 = O := by
                intro h
                rw [h] at eok2
                rw [eO2, HO.out]
                unfold polOfV
                rw [← eok2, HKK.out, hsp]
              rw [hlen] at hI2 hKS2
              have RN9 := Lib.hid RN
              clear RN
              have HI2 := Lib.hid hI2
              have HKS2 := Lib.hid hKS2
              have HO2 := Lib.hid hO2
              have x0 := HPX.out.cell (i := 0) rfl
              have x1 := HPX.out.cell (i := 1) rfl
              have c0 := (Hc.out.cell (p := ⟨w1.heap.size + 1, 0, none⟩) (by simp; omega)).trans T2.out
              have c1 := (Hc.out.cell (p := ⟨w1.heap.size + 1, 1, none⟩) (by simp; omega)).trans T3.out
              have RC9 := Lib.hid (C7.out.upB Hc.out Hc.out.size)
              have PT9 := Lib.hid ((P7.out.below Hc.out).more Hc.out.size)
              have H9 := below_via H6 Hc.out
              have hz9 : w1.heap.size + 1 < wc.heap.size := by have := Hc.out.size; omega
              clear hx1 hx2 hx3 hI2 hKS2 hO2 eok2 ecb2 eO2 hsp hQ HOP HPX HI HS HKI HKS HCS HW HBW HBc Hc
              cases ok2 with
              | false =>
                (go_wp2_with fail); (go_at_call 18; refine (HKS2.out _ _ _ RN9.out).mono ?_; rintro e w10 ⟨rfl, b10⟩; obtain ⟨gc10, gf10⟩ := below_get b10; have H10 := below_via H9 b10)
                go_wp2
                go_returns
                exact ⟨rfl, H10⟩
              | true =>
                have hOO := HO2.out rfl
                subst hOO
                (go_wp2_with fail); (go_at_call 18; refine (HKS2.out _ _ _ RN9.out).mono ?_; rintro e w10 ⟨rfl, b10⟩; obtain ⟨gc10, gf10⟩ := below_get b10; have H10 := below_via H9 b10)
                (go_wp2_with fail); (go_at_call 15; refine (HI2.out _ _ _ _ _ (RN9.out.upB b10 b10.size) (RC9.out.upB b10 b10.size) ((PT9.out.below b10).more b10.size)).mono ?_; rintro e w11 ⟨rfl, b11⟩; have H11 := below_via H10 b11)
                go_wp2
                go_returns
                exact ⟨rfl, H11⟩
  · have k1 : decide (1048576 < (n : Int)) = true := by simp; omega
    go_enter Tryd.func3, Tryd.ntmps3
    go_wp2
    go_returns
    exact ⟨rfl, by go_grown⟩
theorem fnPolicySplit_w (v0 : Value) (W : World) (h0 : IsBytes W v0) (hK : PT W W.heap.size) : Calls Tryd.prog 3 #[v0] W (RetB (.bool true) W) := by
  obtain ⟨A, n, c, xs, rfl, hr, hn, hcm, hx⟩ := h0
  exact fnPolicySplit_law A n c xs W hr hx hn (by unfold maxLen at hcm; omega) hK
set_option maxRecDepth 100000 in
theorem fnPolicySplit_lifted (os : Os) (started : os.Started) (H : Type) (enc : TypeId × Value → H) :
    ReturnsInHanded {} Tryd.checked os 3 .any (fun w args => (Rows.fnPolicySplitSpec.pre enc Tryd.prog Tryd.f3 [] false w args ∧ laidMetH Tryd.prog Rows.fnPolicySplitRow.laid w) ∧ sizedMet enc Tryd.prog Tryd.f3 (OpenSpec.ofChange Rows.fnPolicySplitSpec) false w args)
      (Rows.fnPolicySplitSpec.post enc Tryd.prog Tryd.f3 false true false false) := by
  refine returnsInHanded_of_change_and (C := Tryd.checked) (X := fun w _ => laidMetH Tryd.prog Rows.fnPolicySplitRow.laid w) (fun _ _ _ hh h => h.of_heap hh) own started (by kernel_rfl) Tryd.func3
    (ChangeSpec.witness_shaped (enc := enc) (C := Tryd.checked) (os := os) (X := fun w _ => laidMetH Tryd.prog Rows.fnPolicySplitRow.laid w) false (World.doorLaid Tryd.prog 400 os) #[.slice none 0 0] 8 rfl (World.shaped_of_RefB (by kernel_rfl) (by kernel_rfl)) (by kernel_rfl) (by kernel_rfl) (by kernel_rfl) (laid_met os _)) ?_
  intro W base args ds gs before hval0 hW _ _ hL _
  have hval : ∀ (j : Nat) t v, Tryd.f3.params[j]? = some t → args[j]? = some v → Value.okWide Tryd.prog W .any base t v := hval0
  have hW' := hW
  obtain ⟨p, q, hA0, hV, rfl, hfz, hnd⟩ := hW
  have hA : DataW.TrodAll enc Tryd.prog W 0 (fun _ => true) true Tryd.f3.params.toList args.toList ds p := hA0
  rw [Tryd.params3] at hA hval
  obtain ⟨v0, vs0, d0, ds0, p0, q0, hargs, rfl, rfl, h0, r0⟩ := trodAll_cons hA
  obtain ⟨rfl, rfl, rfl⟩ := trodAll_nil r0
  obtain rfl : args = #[v0] := by cases args; simp_all
  obtain ⟨rfl, rfl⟩ := trodVars_none hV
  have k0 := h0
  have lt0 : ∀ x ∈ p0, x.block < W.heap.size := by obtain ⟨m, hm⟩ := k0; exact DataW.trod_lt m _ _ _ hm
  have o0 := open_Bytes (hval 0 22 v0 rfl rfl) h0
  clear hA0 hval0
  refine (fnPolicySplit_w v0 W o0 (pt_of_laid hL)).mono fun e W' ⟨he, bel⟩ => ?_
  subst he
  exact ⟨_, rfl, _, _, _, [], _, [], hW', trodAll_mk1 (shut_bool Tryd.underlying4 _), (trodAll_cons_mk (Below.trod laidOut (by kernel_rfl) (of_decide_eq_true (by kernel_rfl)) k0 bel lt0) trodAll_mk0), rfl, bel.frame _, fun h => by cases h⟩

theorem fnPolicySplit_holds : Rows.FnPolicySplitSaid :=
  OpenClaim.holds_of_wide 3 Tryd.f3 rfl rfl rfl rfl rfl rfl rfl ⟨rfl, rfl, rfl, rfl, rfl⟩ rfl rfl rfl rfl rfl (by kernel_rfl) Tryd.func3 (by kernel_rfl)
    (of_decide_eq_true (by kernel_rfl)) (by unfold Func.isWrapper; rw [if_neg (of_decide_eq_false (by kernel_rfl))]; exact ⟨rfl, rfl⟩)
    (fun os started H enc _ => fnPolicySplit_lifted os started H enc)
theorem fnPolicySplit_card : Rows.FnPolicySplitCardSaid :=
  Claim7.holds_tied_plain_at .later [] [.data, .data, .data] true (true, "e5285b4dfec83ce1191f224f2249e333f59ff691aa3990693bdc3cbb67853b79") false
    fnPolicySplit_holds (fun _ h => by cases h) (by kernel_rfl) (fun _ h => by cases h) fnPolicySplit_row_tie rfl ⟨rfl, rfl⟩ (by kernel_rfl) rfl
    (fun f fn hf hfn => by
      obtain rfl : f = 3 := Option.some.inj ((show Tryd.prog.funcNamed "loop.example/gatelodge/laws.FnPolicySplit" = some 3 by kernel_rfl).symm.trans hf) |>.symm
      obtain rfl : fn = Tryd.f3 := (Option.some.inj (Tryd.func3.symm.trans hfn)).symm
      exact ⟨by kernel_rfl, fun j t ht => by
        rw [Tryd.params3] at ht
        have hm : t ∈ [22] := by simpa using Array.mem_of_getElem? ht
        have hall : ([22].all fun u => !Tryd.prog.wantsStandIn u) = true := by kernel_rfl
        exact (show Tryd.prog.wantsStandIn t = false by simpa using List.all_eq_true.1 hall t hm)⟩)
    (by kernel_rfl)
#print axioms fnPolicySplit_card
end Go.Proofs.YtljgaepgblakhaaDoor
