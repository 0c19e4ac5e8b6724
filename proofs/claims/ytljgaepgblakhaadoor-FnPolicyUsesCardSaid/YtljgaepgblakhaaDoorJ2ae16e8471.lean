/- FnPolicyUses: the walk of the law. Conditions: the contract's own. -/
import Derived.Test.YtljgaepgblakhaaDoorJ74c898c071
import Derived.Test.YtljgaepgblakhaaDoorJf000a78540
import Derived.Test.YtljgaepgblakhaaDoorJdfbde8d992
namespace Go.Proofs.YtljgaepgblakhaaDoor
set_option linter.unusedSimpArgs false
open Go.ChangeShapes Go.WideShapes Go.ChangeAt Go.RowKit
set_option linter.unusedVariables false
set_option linter.unnecessarySimpa false
theorem of_i (rs : List Rl) (els num : Int) (zs : List Int) (hn : rs.length ≤ 9223372036854775807) (hm : zs.length ≤ 9223372036854775807) : ∃ (O : Int), O = polOfV ⟨rs, els⟩ num zs ∧
    (∀ A c B d W, RdR W W.heap.size A rs.length rs → Rd W W.heap.size 1 B zs.length (ints zs) → PT W W.heap.size → Calls Tryd.prog 15 #[.agg #[.slice A rs.length c, .int .i64 els], .agg #[.int .i64 num, .slice B zs.length d]] W (RetB (.int .i64 O) W)) :=
  ⟨_, rfl, fun A c B d W h1 h2 h3 => policyOf_c A _ c rs els num B _ d zs W hn hm h1 h2 h3⟩
set_option maxHeartbeats 8000000 in
set_option maxRecDepth 100000 in
theorem fnPolicyUses_law (A : Option Addr) (n c : Nat) (xs : List Int) (B : Option Addr) (m d : Nat) (ys : List Int) (w : World) (hr : Rd w w.heap.size 1 A n (u8s xs)) (hx : ∀ x ∈ xs, 0 ≤ x ∧ x ≤ 255) (hc : n ≤ c) (hc2 : c ≤ 9223372036854775807)
    (hq : Rd w w.heap.size 1 B m (u8s ys)) (hy : ∀ x ∈ ys, 0 ≤ x ∧ x ≤ 255) (hd : m ≤ d) (hd2 : d ≤ 9223372036854775807) (hp : PT w w.heap.size) :
    Calls Tryd.prog 7 #[.slice A n c, .slice B m d] w (RetB (.bool true) w) := by
  have HR := Lib.hid hr
  have HX := Lib.hid hx
  have HQ := Lib.hid hq
  have HY := Lib.hid hy
  have HP := Lib.hid hp
  clear hr hx hq hy hp
  by_cases h1 : n ≤ 1048576
  · have k1 : decide (1048576 < (n : Int)) = false := by simp; omega
    by_cases h2 : m ≤ 1048576
    · have k2 : decide (1048576 < (m : Int)) = false := by simp; omega
      obtain ⟨i0, hi0, hz0, hz1, hz2⟩ := info_parts info_int
      go_enter Tryd.func7, Tryd.ntmps7
      (go_wp2_with fail); (go_at_call 32; refine (drawPolicyUses_c A n c xs _ (HR.out.upB (by go_grown) (by go_size)) HX.out hc hc2).mono ?_; rintro e w1 ⟨PA, pn, pc, qs, pe, rfl, o1, hpn, hl1, b1⟩; have RP := Lib.hid o1.rd; have HTS : Hid (∀ r ∈ rls qs, r.ts.length ≤ 10) := Lib.hid (fun r h => by obtain ⟨q, hq, rfl⟩ := List.mem_map.1 h; have := hl1 q hq; omega); clear o1 hl1; obtain ⟨gc1, gf1⟩ := below_get b1; (try simp only [heap_drew, World.size_alloc, World.size_setCell] at gc1 gf1); have s1 := below_via (w := w) (by go_grown) b1; have H1 := s1; have hs1 := b1.size; (try simp at hs1); clear b1)
      generalize rls qs = rs at *
      have hl1 := RP.out.1
      subst hl1
      obtain ⟨us, hus, hlaw, hTS, hTI⟩ := uses_y rs pe (by omega)
      obtain ⟨ok, eok, hKI, hKS⟩ := ok_x rs pe (by omega)
      obtain ⟨un, eun⟩ : ∃ k, us.length = k := ⟨_, rfl⟩
      rw [eun] at hus hTS hTI
      have HTS2 := Lib.hid hTS
      have HTI := Lib.hid hTI
      have HKI := Lib.hid hKI
      have HKS := Lib.hid hKS
      have HLAW := Lib.hid hlaw
      have EUN := Lib.hid eun
      clear hTS hTI hKI hKS hlaw eok eun
      (go_wp2_with fail); (go_at_call 33; refine (HTI.out _ _ _ (RP.out.upB (by go_grown) (by go_size)) ((HP.out.below (show Below w.heap.size w _ from below_via H1 (by go_grown))).more (by (try simp); omega))).mono ?_; rintro e w2 ⟨A2, c2, rfl, o2, b2⟩; have R2 := Lib.hid (Rd.of_own o2); clear o2; obtain ⟨gc2, gf2⟩ := below_get b2; (try simp only [heap_drew, World.size_alloc, World.size_setCell] at gc2 gf2); have s2 := below_via (w := w1) (by go_grown) b2; have H2 := below_via H1 s2; have hs2 := b2.size; (try simp at hs2); have z2_0 : w1.heap.size < w2.heap.size := (by omega); clear b2)
      go_wp2_with fail
      go_region_held3 (fun w' => w'.cell? ⟨w1.heap.size, 0, none⟩ = some (.slice PA rs.length pc) ∧ w'.cell? ⟨w1.heap.size, 1, none⟩ = some (.int .i64 pe)) (simp [go_sem, *])
        (first
         | (go_at_call 35; refine (HTS2.out _ _ _ ((RP.out.up s2).upB (by go_grown) (by go_size))).mono ?_; rintro e w3 ⟨A3, c3, rfl, o3, b3⟩; have R3 := Lib.hid (Rd.of_own o3); clear o3; obtain ⟨gc3, gf3⟩ := below_get b3; (try simp only [heap_drew, World.size_alloc, World.size_setCell] at gc3 gf3); have s3 := below_via (w := w2) (by go_grown) b3; have H3 := below_via H2 s3; have hs3 := b3.size; (try simp at hs3); have z3_0 : w1.heap.size < w3.heap.size := (by omega); clear b3)
         | (go_at_call 34; refine (wgInts_y A2 A3 un c2 c3 us _ ((R2.out.up s3).upB (by go_grown) (by go_size)) (R3.out.upB (by go_grown) (by go_size)) (by omega)).mono ?_; rintro e w4 ⟨rfl, b4⟩; obtain ⟨gc4, gf4⟩ := below_get b4; (try simp only [heap_drew, World.size_alloc, World.size_setCell] at gc4 gf4); have s4 := below_via (w := w3) (by go_grown) b4; have H4 := below_via H3 s4; have hs4 := b4.size; (try simp at hs4); have z4_0 : w1.heap.size < w4.heap.size := (by omega); clear b4)
         | (go_at_call 17; refine (HKI.out _ _ _ ((((RP.out.up s2).up s3).up s4).upB (by go_grown) (by go_size)) ((HP.out.below (show Below w.heap.size w _ from below_via H4 (by go_grown))).more (by (try simp); omega))).mono ?_; rintro e w5 ⟨rfl, b5⟩; obtain ⟨gc5, gf5⟩ := below_get b5; (try simp only [heap_drew, World.size_alloc, World.size_setCell] at gc5 gf5); have s5 := below_via (w := w4) (by go_grown) b5; have H5 := below_via H4 s5; have hs5 := b5.size; (try simp at hs5); have z5_0 : w1.heap.size < w5.heap.size := (by omega); clear b5)
         | (go_at_call 18; refine (HKS.out _ _ _ (((((RP.out.up s2).up s3).up s4).up s5).upB (by go_grown) (by go_size))).mono ?_; rintro e w6 ⟨rfl, b6⟩; obtain ⟨gc6, gf6⟩ := below_get b6; (try simp only [heap_drew, World.size_alloc, World.size_setCell] at gc6 gf6); have s6 := below_via (w := w5) (by go_grown) b6; have H6 := below_via H5 s6; have hs6 := b6.size; (try simp at hs6); have z6_0 : w1.heap.size < w6.heap.size := (by omega); clear b6))
      clear HKI HKS HTS2 HTI
      (go_wp2_with fail); (go_at_call 23; refine (drawnNear_c B m d ys PA rs.length pc rs pe _ ((HQ.out.below (show Below w.heap.size w _ from below_via H6 (by go_grown))).more (by (try simp); omega)) HY.out hd hd2 ((((((RP.out.up s2).up s3).up s4).up s5).up s6).upB (by go_grown) (by go_size)) (by omega) HTS.out).mono ?_; rintro e w7 ⟨num, CA, cc, zs, rfl, rc, hcb, b7⟩; have RC := Lib.hid rc; have HCB := Lib.hid hcb; clear rc hcb; obtain ⟨gc7, gf7⟩ := below_get b7; (try simp only [heap_drew, World.size_alloc, World.size_setCell] at gc7 gf7); have s7 := below_via (w := w6) (by go_grown) b7; have H7 := below_via H6 s7; have hs7 := b7.size; (try simp at hs7); have z7_0 : w1.heap.size < w7.heap.size := (by omega); clear b7)
      have hl4 : zs.length = 4 := by have := RC.out.len1; rw [ints_len] at this; exact this
      obtain ⟨b, off, rfl, hb0, hcell⟩ := RC.out.2 (by omega)
      have HL4 := Lib.hid hl4
      clear hl4 hcell
      go_upto_region 8 with (fail)
      have T0 : (w7.alloc (.cells #[.int .i64 num, .slice (some ⟨b, off, none⟩) 4 cc] 28)).cell? ⟨w1.heap.size, 0, none⟩ = some (.slice PA rs.length pc) := by simp [go_sem, *]
      have T1 : (w7.alloc (.cells #[.int .i64 num, .slice (some ⟨b, off, none⟩) 4 cc] 28)).cell? ⟨w1.heap.size, 1, none⟩ = some (.int .i64 pe) := by simp [go_sem, *]
      have CB := Lib.hid (Blk.new w7 28 [.int .i64 num, .slice (some ⟨b, off, none⟩) 4 cc])
      have T2 := CB.out.cell (i := 0) rfl
      have T3 := CB.out.cell (i := 1) rfl
      have Z8 := Lib.hid (RC.out.upB (show Below _ _ (w7.alloc (.cells #[.int .i64 num, .slice (some ⟨b, off, none⟩) 4 cc] 28)) from by go_grown) (by go_size))
      have L8 := Lib.hid ((R2.out.up s3).up s4 |>.up s5 |>.up s6 |>.up s7 |>.upB (show Below _ _ (w7.alloc (.cells #[.int .i64 num, .slice (some ⟨b, off, none⟩) 4 cc] 28)) from by go_grown) (by go_size))
      have P8 := Lib.hid ((RP.out.up s2).up s3 |>.up s4 |>.up s5 |>.up s6 |>.up s7 |>.upB (show Below _ _ (w7.alloc (.cells #[.int .i64 num, .slice (some ⟨b, off, none⟩) 4 cc] 28)) from by go_grown) (by go_size))
      have K8 := below_via (w := w) H7 (show Below w7.heap.size w7 (w7.alloc (.cells #[.int .i64 num, .slice (some ⟨b, off, none⟩) 4 cc] 28)) from by go_grown)
      have hs8 : (w7.alloc (.cells #[.int .i64 num, .slice (some ⟨b, off, none⟩) 4 cc] 28)).heap.size = w7.heap.size + 1 := by simp
      generalize w7.alloc (.cells #[.int .i64 num, .slice (some ⟨b, off, none⟩) 4 cc] 28) = w8 at *
      have q1 : w1.heap.size < w8.heap.size := by omega
      have q7 : w7.heap.size < w8.heap.size := by omega
      have hw0 : w.heap.size ≤ w8.heap.size := K8.size
      clear gc1 gf1 gc2 gf2 gc3 gf3 gc4 gf4 gc5 gf5 gc6 gf6 gc7 gf7 s1 s2 s3 s4 s5 s6 s7 H1 H2 H3 H4 H5 H6 H7 R2 R3 RC RP CB hs8
      go_cut [8] (fun v wx => ∃ (D gg cap : Nat), v = .pointer (some ⟨D, 0, none⟩) ∧ w8.heap.size ≤ D ∧ w8.heap.size ≤ gg ∧ gg ≠ D ∧ Hid (Blk wx D 28 [.int .i64 num, .slice (some ⟨gg, 0, none⟩) 4 cap]) ∧ Hid (Ow wx w8.heap.size (some ⟨gg, 0, none⟩) 4 zs) ∧ Hid (Below w8.heap.size w8 wx))
      case first =>
        go_region_law (first
          | (refine step_append_lies _ (by rfl) _ _ _ (by rfl) w8.heap.size 3 i0 _ 1 8 Tryd.underlying26 hi0 hz0 hz1 hz2 rfl (by omega) (.slice (some ⟨w8.heap.size, 0, none⟩) 0 0) 0 [] (by rfl) (own_emptyQ w8 3 w8.heap.size w8.heap.size rfl (Nat.le_refl _)).drew ⟨b, off, none⟩ 4 cc (ints zs) (by rfl) (by simp [ints, HL4.out]) (src_cellsQ (Z8.out.upB (by go_grown) (by go_size)) (by omega)) (ints_oneQ zs) (by omega) (by unfold maxLen; omega) (by omega) (by simp; try omega) _ rfl ?_; intro gg cap w9 hown7 hgr7 hat7 hlt7; simp only [Nat.zero_add, List.nil_append] at hown7; have O7 := Lib.hid (Ow.of_own (xs := zs) hown7); have hs7 := hgr7.size; simp at hs7; have G7a := gr_below (B := w8.heap.size) hgr7 (by simp) (by simp; try omega); have G7 : Hid (Below w8.heap.size w8 w9) := Lib.hid (Below.trans (by go_grown) G7a); clear G7a; obtain ⟨gc7, gf7⟩ := below_get G7.out; have y70 := (gc7 _ _ q7).trans T2; have y71 := (gc7 _ _ q7).trans T3; clear gc7 gf7; have q9 : w7.heap.size < w9.heap.size := (by omega); have q10 : w7.heap.size ≠ w9.heap.size := (by omega); have hgg : w8.heap.size ≤ gg := (by rcases hat7 with h | h <;> simp [Value.ownBlock] at h <;> omega); clear hown7 hgr7 hat7)
          | (refine step_append_lies _ (by rfl) _ _ _ (by rfl) w8.heap.size 3 i0 _ 1 8 Tryd.underlying26 hi0 hz0 hz1 hz2 rfl (by omega) (.slice (some ⟨w8.heap.size, 0, none⟩) 0 0) 0 [] (by rfl) ((own_emptyQ w8 3 w8.heap.size w8.heap.size rfl (Nat.le_refl _)).alloc _).drew ⟨b, off, none⟩ 4 cc (ints zs) (by rfl) (by simp [ints, HL4.out]) (src_cellsQ (Z8.out.upB (by go_grown) (by go_size)) (by omega)) (ints_oneQ zs) (by omega) (by unfold maxLen; omega) (by omega) (by simp; try omega) _ rfl ?_; intro gg cap w9 hown7 hgr7 hat7 hlt7; simp only [Nat.zero_add, List.nil_append] at hown7; have O7 := Lib.hid (Ow.of_own (xs := zs) hown7); have hs7 := hgr7.size; simp at hs7; have G7a := gr_below (B := w8.heap.size) hgr7 (by simp) (by simp; try omega); have G7 : Hid (Below w8.heap.size w8 w9) := Lib.hid (Below.trans (by go_grown) G7a); clear G7a; obtain ⟨gc7, gf7⟩ := below_get G7.out; have y70 := (gc7 _ _ q7).trans T2; have y71 := (gc7 _ _ q7).trans T3; clear gc7 gf7; have D7 := Lib.hid ((Blk.new (w8.alloc (.cells #[] 3)) 28 [.int .i64 0, .slice none 0 0]).drew.other hgr7 (by simp [Value.ownBlock])); have hgg : w8.heap.size ≤ gg ∧ gg ≠ w8.heap.size + 1 := (by rcases hat7 with h | h <;> simp [Value.ownBlock] at h <;> omega); simp only [World.size_alloc] at D7; have D70 := D7.out.cell (i := 0) rfl; have D71 := D7.out.cell (i := 1) rfl; have D7f := D7.out.free; clear hown7 hgr7 hat7)
          | (refine step_append_lies _ (by rfl) _ _ _ (by rfl) w8.heap.size 3 i0 _ 1 8 Tryd.underlying26 hi0 hz0 hz1 hz2 rfl (by omega) (.slice (some ⟨w8.heap.size + 1, 0, none⟩) 0 0) 0 [] (by rfl) (own_emptyQ (w8.alloc (.cells #[.int .i64 0, .slice none 0 0] 28)) 3 w8.heap.size (w8.heap.size + 1) (by simp) (by omega)).drew ⟨b, off, none⟩ 4 cc (ints zs) (by rfl) (by simp [ints, HL4.out]) (src_cellsQ (Z8.out.upB (by go_grown) (by go_size)) (by omega)) (ints_oneQ zs) (by omega) (by unfold maxLen; omega) (by omega) (by simp; try omega) _ rfl ?_; intro gg cap w9 hown7 hgr7 hat7 hlt7; simp only [Nat.zero_add, List.nil_append] at hown7; have O7 := Lib.hid (Ow.of_own (xs := zs) hown7); have hs7 := hgr7.size; simp at hs7; have G7a := gr_below (B := w8.heap.size) hgr7 (by simp) (by simp; try omega); have G7 : Hid (Below w8.heap.size w8 w9) := Lib.hid (Below.trans (by go_grown) G7a); clear G7a; obtain ⟨gc7, gf7⟩ := below_get G7.out; have y70 := (gc7 _ _ q7).trans T2; have y71 := (gc7 _ _ q7).trans T3; clear gc7 gf7; have D7 := Lib.hid (((Blk.new w8 28 [.int .i64 0, .slice none 0 0]).alloc _).drew.other hgr7 (by simp [Value.ownBlock])); have hgg : w8.heap.size ≤ gg ∧ gg ≠ w8.heap.size := (by rcases hat7 with h | h <;> simp [Value.ownBlock] at h <;> omega); have D70 := D7.out.cell (i := 0) rfl; have D71 := D7.out.cell (i := 1) rfl; have D7f := D7.out.free; clear hown7 hgr7 hat7))
        all_goals
          go_wp2_with fail
          go_meet
          first
            | exact ⟨w9.heap.size, gg, cap, rfl, by omega, by omega, by omega, Blk.new w9 28 [.int .i64 _, .slice (some ⟨gg, 0, none⟩) 4 cap], O7.out.up (Below.alloc (Below.refl _ _) (Nat.le_refl _) _), G7.out.trans (by go_grown)⟩
            | exact ⟨w8.heap.size + 1, gg, cap, rfl, by omega, by omega, by omega, (D7.out.set_ 0 _).set_ 1 _, (O7.out.far' (by simp; omega) _).far' (by simp; omega) _, G7.out.trans (by go_grown)⟩
            | exact ⟨w8.heap.size, gg, cap, rfl, by omega, by omega, by omega, (D7.out.set_ 0 _).set_ 1 _, (O7.out.far' (by simp; omega) _).far' (by simp; omega) _, G7.out.trans (by go_grown)⟩
      case rest =>
        obtain ⟨D, gg, cap, rfl, hD, hg, hne, HD0, HO0, HB0⟩ := hcut
        clear hi0 hz0 hz1 hz2 i0
        obtain ⟨hv1⟩ : Nonempty (wordB (((m : Int) * (31 : Nat)).tmod 1000) = true) := ⟨word_tmod m 31⟩
        obtain ⟨hv2⟩ : Nonempty (wordB (((m : Int) * (17 : Nat)).tmod 1000) = true) := ⟨word_tmod m 17⟩
        have HV1 := Lib.hid hv1
        have HV2 := Lib.hid hv2
        clear hv1 hv2
        go_wp2_with fail
        go_loopg [9] 5 (fun gk i wr => ∃ (k : Nat) (num' : Int) (ys' : List Int), gk + k = 5 ∧ i = .int .i64 k ∧ Hid (Blk wr D 28 [.int .i64 num', .slice (some ⟨gg, 0, none⟩) 4 cap]) ∧ Hid (Ow wr w8.heap.size (some ⟨gg, 0, none⟩) 4 ys') ∧ Hid (Below w8.heap.size w8 wr) ∧ Hid (Turned us k num zs num' ys'))
        case atStart => exact ⟨0, num, zs, by omega, rfl, HD0, HO0, HB0, Lib.hid (Turned.start HCB.out)⟩
        case round =>
          obtain ⟨k, num', ys', hgk, rfl, HD, HO, HB, HT⟩ := hrel
          have hbs := HB.out.size
          have c0 := HD.out.cell (i := 0) rfl
          have c1 := HD.out.cell (i := 1) rfl
          have cf := HD.out.free
          by_cases hk : gk = 0
          · subst hk
            obtain rfl : k = 5 := by omega
            have hl5 : ys'.length = 4 := HO.out.1
            have hl4 := HL4.out
            obtain ⟨O1, eO1, hI1⟩ := of_i rs pe num zs (by omega) (by omega)
            obtain ⟨O3, eO3, hI3⟩ := of_i rs pe num' ys' (by omega) (by omega)
            have hO : O3 = O1 := by rw [eO3, eO1]; exact HLAW.out num zs num' ys' HCB.out HT.out
            have HI1 := Lib.hid hI1
            have HI3 := Lib.hid hI3
            rw [hl4] at HI1
            rw [hl5] at HI3
            clear hI1 hI3 eO1 eO3 HLAW HTS hl4 hl5
            subst hO
            obtain ⟨gcr, gfr⟩ := below_get HB.out
            have r0 := (gcr _ _ q1).trans T0
            have r1 := (gcr _ _ q1).trans T1
            have r2 := (gcr _ _ q7).trans T2
            have r3 := (gcr _ _ q7).trans T3
            have zD := HD.out.lt
            have zP : w1.heap.size < wr.heap.size := by omega
            have z7 : w7.heap.size < wr.heap.size := by omega
            clear gcr gfr
            have KR := below_via (w := w) K8 HB.out
            have ZR := Lib.hid (Z8.out.upB HB.out hbs)
            have PR := Lib.hid (P8.out.upB HB.out hbs)
            have YR := Lib.hid HO.out.rd
            clear HO0 HD0 HB0
            go_wp2_with fail
            go_region_held3 (fun w' => w'.cell? ⟨w1.heap.size, 0, none⟩ = some (.slice PA rs.length pc) ∧ w'.cell? ⟨w1.heap.size, 1, none⟩ = some (.int .i64 pe) ∧ w'.cell? ⟨w7.heap.size, 0, none⟩ = some (.int .i64 num) ∧ w'.cell? ⟨w7.heap.size, 1, none⟩ = some (.slice (some ⟨b, off, none⟩) 4 cc) ∧ w'.cell? ⟨D, 0, none⟩ = some (.int .i64 num') ∧ w'.cell? ⟨D, 1, none⟩ = some (.slice (some ⟨gg, 0, none⟩) 4 cap)) (simp [go_sem, *])
              (first
               | (go_at_call 15; refine (HI3.out _ _ _ _ _ ((PR.out.up s9).upB (by go_grown) (by go_size)) ((YR.out.up s9).upB (by go_grown) (by go_size)) ((HP.out.below (show Below w.heap.size w _ from below_via K9 (by go_grown))).more (by (try simp); omega))).mono ?_; rintro e w10 ⟨rfl, b10⟩; obtain ⟨gc10, gf10⟩ := below_get b10; (try simp only [heap_drew, World.size_alloc, World.size_setCell] at gc10 gf10); have s10 := below_via (w := w9) (by go_grown) b10; have K10 := below_via K9 s10; have hs10 := b10.size; (try simp at hs10); have z10_0 : w1.heap.size < w10.heap.size := (by omega); have z10_1 : w7.heap.size < w10.heap.size := (by omega); have z10_2 : D < w10.heap.size := (by omega); clear b10)
               | (go_at_call 15; refine (HI1.out _ _ _ _ _ (PR.out.upB (by go_grown) (by go_size)) (ZR.out.upB (by go_grown) (by go_size)) ((HP.out.below (show Below w.heap.size w _ from below_via KR (by go_grown))).more (by (try simp); omega))).mono ?_; rintro e w9 ⟨rfl, b9⟩; obtain ⟨gc9, gf9⟩ := below_get b9; (try simp only [heap_drew, World.size_alloc, World.size_setCell] at gc9 gf9); have s9 := below_via (w := wr) (by go_grown) b9; have K9 := below_via KR s9; have hs9 := b9.size; (try simp at hs9); have z9_0 : w1.heap.size < w9.heap.size := (by omega); have z9_1 : w7.heap.size < w9.heap.size := (by omega); have z9_2 : D < w9.heap.size := (by omega); clear b9))
            go_wp2
            go_returns
            exact ⟨rfl, below_via K10 (by go_grown)⟩
          · obtain ⟨gk, rfl⟩ : ∃ x, gk = x + 1 := ⟨gk - 1, by omega⟩
            have hk5 : k < 5 := by omega
            obtain ⟨ga, rfl⟩ : ∃ x : Nat, x = gk := ⟨_, rfl⟩
            obtain ⟨wo, rfl⟩ : ∃ x : World, x = wr := ⟨_, rfl⟩
            clear HO0 HD0 HB0
            go_wp2_with fail
            go_loopg [10, 11] un (fun gj u i wr => ∃ (j : Nat), gj + j = un ∧ i = .int .i64 j ∧ u = .bool (decide ((k : Int) ∈ us.take j)) ∧ Hid (Below wo.heap.size wo wr))
            case atStart => exact ⟨0, by omega, rfl, by simp, Lib.hid (Below.refl _ _)⟩
            case round =>
              obtain ⟨j, hgj, rfl, rfl, HF⟩ := hrel
              have hfs := HF.out.size
              by_cases hj : gk = 0
              · subst hj
                obtain rfl : j = un := by omega
                have hul := EUN.out
                rw [List.take_of_length_le (by omega)]
                have HD2 := Lib.hid (HD.out.up HF.out)
                have HO2 := Lib.hid (HO.out.up HF.out)
                have HB2 := Lib.hid (HB.out.trans (HF.out.mono hbs))
                clear c0 c1 cf
                have c0 := HD2.out.cell (i := 0) rfl
                have c1 := HD2.out.cell (i := 1) rfl
                have cf := HD2.out.free
                cases hu : decide ((k : Int) ∈ us) with
                | true =>
                  have HM : Hid ((k : Int) ∈ us) := Lib.hid (of_decide_eq_true hu)
                  clear hu
                  go_wp2
                  go_roundg ga
                  case measure => omega
                  case rel =>
                    go_light
                    exact ⟨k + 1, num', ys', by omega, by go_num, HD2, HO2, HB2, Lib.hid (HT.out.skip HM.out)⟩
                | false =>
                  have HM : Hid ((k : Int) ∉ us) := Lib.hid (of_decide_eq_false hu)
                  clear hu
                  by_cases hk0 : k = 0
                  · subst hk0
                    go_wp2
                    go_roundg ga
                    case measure => omega
                    case rel =>
                      go_light
                      exact ⟨1, _, ys', by omega, by go_num, HD2.out.set_ 0 _, Lib.hid (HO2.out.far' (by simp; omega) _), Lib.hid (HB2.out.trans (by go_grown)), Lib.hid (HT.out.num HM.out HV1.out)⟩
                  · obtain ⟨k, rfl⟩ : ∃ x, k = x + 1 := ⟨k - 1, by omega⟩
                    obtain ⟨⟨z, oc⟩, of⟩ := HO2.out.cellAt0 k (by omega)
                    have hkw : IntKind.i64.wrap (((k + 1 : Nat) : Int) - 1) = (k : Int) := by rw [IntKind.wrap_i64]; omega
                    have hkz : ((((k + 1 : Nat) : Int)) == 0) = false := by simp; omega
                    go_wp2
                    go_roundg ga
                    case measure => omega
                    case rel =>
                      go_light
                      exact ⟨k + 1 + 1, num', ys'.set k _, by omega, by go_num, HD2.out.far (by simp; omega) _, HO2.out.put0 k _, Lib.hid (HB2.out.trans (by go_grown)), Lib.hid (HT.out.arg HM.out HV2.out)⟩
              · obtain ⟨gk, rfl⟩ : ∃ x, gk = x + 1 := ⟨gk - 1, by omega⟩
                have hlt : j < un := by omega
                obtain ⟨x, hx⟩ := some_at EUN.out hlt
                have L9 := L8.out.below (HB.out.trans (HF.out.mono hbs))
                obtain ⟨lb, lo, rfl, hlb, hlc⟩ := L9.2 (by omega)
                have hcl := hlc j _ (int_at hx)
                have HMT := Lib.hid (mem_take1 hx (k : Int))
                clear hx hlc L9
                generalize decide ((k : Int) ∈ us.take j) = u0 at *
                cases u0 with
                | true =>
                  have HUU : Hid (decide ((k : Int) ∈ us.take (j + 1)) = true) := Lib.hid (by rw [HMT.out]; rfl)
                  go_wp2
                  go_roundg gk
                  case measure => omega
                  case rel =>
                    go_light
                    exact ⟨j + 1, by omega, by go_num, by rw [HUU.out], HF⟩
                | false =>
                  by_cases hf : x = (k : Int)
                  · have f1 : ((x : Int) == (k : Int)) = true := by simpa using hf
                    have HUU : Hid (decide ((k : Int) ∈ us.take (j + 1)) = true) := Lib.hid (by rw [HMT.out, Bool.false_or]; simpa using hf)
                    clear hf
                    go_wp2
                    go_roundg gk
                    case measure => omega
                    case rel =>
                      go_light
                      exact ⟨j + 1, by omega, by go_num, by rw [HUU.out], HF⟩
                  · have f1 : ((x : Int) == (k : Int)) = false := by simpa using hf
                    have HUU : Hid (decide ((k : Int) ∈ us.take (j + 1)) = false) := Lib.hid (by rw [HMT.out, Bool.false_or]; simpa using hf)
                    clear hf
                    go_wp2
                    go_roundg gk
                    case measure => omega
                    case rel =>
                      go_light
                      exact ⟨j + 1, by omega, by go_num, by rw [HUU.out], HF⟩
    · have k2 : decide (1048576 < (m : Int)) = true := by simp; omega
      go_enter Tryd.func7, Tryd.ntmps7
      go_wp2
      go_returns
      exact ⟨rfl, by go_grown⟩
  · have k1 : decide (1048576 < (n : Int)) = true := by simp; omega
    go_enter Tryd.func7, Tryd.ntmps7
    go_wp2
    go_returns
    exact ⟨rfl, by go_grown⟩
end Go.Proofs.YtljgaepgblakhaaDoor
