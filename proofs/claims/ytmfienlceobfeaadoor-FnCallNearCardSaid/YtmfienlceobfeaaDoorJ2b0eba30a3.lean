/- The walk of FnCallNear: all calls that are near are tried, each once. Conditions: each lemma's own. -/
import Derived.Test.YtmfienlceobfeaaDoorJ5c67b388c7
import Derived.Test.YtmfienlceobfeaaDoorJ23d454fc4f
import Derived.Test.YtmfienlceobfeaaDoorJ03fc0109a5
import Derived.Test.YtmfienlceobfeaaDoorJc7e08d8ad5
import Derived.BigQuiet
namespace Go.Proofs.YtmfienlceobfeaaDoor
set_option linter.unusedSimpArgs false
open Go.ChangeShapes Go.WideShapes Go.ChangeAt Go.RowKit
set_option linter.unusedVariables false
set_option linter.unnecessarySimpa false
set_option maxRecDepth 20000
/-- What the law asks of the calls near a policy. -/
structure NearOk (p : Pol) (cs : List (List Int)) : Prop where
  len : cs.length ≤ 600
  ok : ∀ x ∈ cs, callB (x.headD 0) x.tail = true ∧ x.length = 5
  ne : ∀ (k : Nat) (c d : List Int), cs[k]? = some c → cs[k + 1]? = some d → c ≠ d
  low : polOk p = true → cs.length < 600 → ∀ r ∈ p.rs, ∃ (k : Nat) (c : List Int), cs[k]? = some c ∧ c.headD 0 = r.lo
theorem nearP_ok (p : Pol) : NearOk p (nearP p) := by
  by_cases h : polOk p = true
  · have e : nearP p = nearC p.rs 600 := by unfold nearP; rw [if_pos h]
    rw [e]
    refine ⟨nearC_len _ _, (fun x hx => ?_), (fun k c d hc hd => nearC_ne hc hd), (fun _ hl r hr => ?_)⟩
    · obtain ⟨x0, x1, x2, x3, x4, rfl, h0, h1, h2, h3, h4⟩ := nearC_ok hx
      refine ⟨?_, rfl⟩
      unfold callB
      simp [h0, h1, h2, h3, h4]
    · have hB := (polOk_rules h).2
      rw [List.all_eq_true] at hB
      have hw := rule_and (hB r hr)
      obtain ⟨k, c, hk, hh⟩ := nearC_low hr (by unfold wordB; simp; omega) hl
      refine ⟨k, c, hk, ?_⟩
      cases c with
      | nil => cases hh
      | cons a as1 => simpa using hh
  · have e : nearP p = [] := by unfold nearP; rw [if_neg h]
    rw [e]
    exact ⟨Nat.zero_le _, (fun x hx => by cases hx), (fun k c d hc => by cases hc), (fun h' => absurd h' h)⟩
theorem RdC.below {w w' : World} {B n : Nat} {A : Option Addr} {cs : List (List Int)} (h : RdC w B A n cs) (k : Below B w w') : RdC w' B A n cs := by
  refine ⟨h.1, fun hn => ?_⟩
  obtain ⟨b, off, e, hb, hc⟩ := h.2 hn
  refine ⟨b, off, e, hb, fun j x hj => ?_⟩
  obtain ⟨h5, TA, tc, k0, k1, k2⟩ := hc j x hj
  exact ⟨h5, TA, tc, (k.cell (p := ⟨b, off + j * 2, none⟩) hb).trans k0, (k.cell (p := ⟨b, off + j * 2 + 1, none⟩) hb).trans k1, k2.below k⟩
/-- One call, as it lies. -/
theorem RdC.one {w : World} {B n j : Nat} {A : Option Addr} {cs : List (List Int)} {x : List Int} (h : RdC w B A n cs) (hx : cs[j]? = some x) : ∃ b off TA tc, A = some ⟨b, off, none⟩ ∧ b < B ∧ w.cell? ⟨b, off + j * 2, none⟩ = some (.int .i64 (x.headD 0)) ∧ w.cell? ⟨b, off + j * 2 + 1, none⟩ = some (.slice TA 4 tc) ∧ Rd w B 1 TA 4 (ints x.tail) := by
  have hj := (List.getElem?_eq_some_iff.1 hx).1
  obtain ⟨b, off, e, hb, hc⟩ := h.2 (by have := h.1; omega)
  obtain ⟨h5, TA, tc, k0, k1, k2⟩ := hc j x hx
  exact ⟨b, off, TA, tc, e, hb, k0, k1, k2⟩
set_option maxHeartbeats 8000000 in
set_option maxRecDepth 100000 in
theorem fnCallNear_law (A : Option Addr) (n c : Nat) (xs : List Int) (w : World) (hr : Rd w w.heap.size 1 A n (u8s xs)) (hx : ∀ x ∈ xs, 0 ≤ x ∧ x ≤ 255) (hc : n ≤ c) (hc2 : c ≤ 9223372036854775807) (hp : PT w w.heap.size) :
    Calls Tryd.prog 3 #[.slice A n c] w (RetB (.bool true) w) := by
  have HR := Lib.hid hr
  have HX := Lib.hid hx
  have HP := Lib.hid hp
  clear hr hx hp
  by_cases h1 : n ≤ 1048576
  · have k1 : decide (1048576 < (n : Int)) = false := by simp; omega
    go_enter Tryd.func3, Tryd.ntmps3
    (go_wp2_with fail); (go_at_call 4; refine (drawCallNear_c A n c xs _ (HR.out.upB (by go_grown) (by go_size)) HX.out hc hc2).mono ?_; rintro e w1 ⟨PA, pn, pc, qs, pe, rfl, o1, hpn, hl1, b1⟩; have RP := Lib.hid o1.rd; have QB := Lib.hid (Blk.new w1 25 [.slice PA pn pc, .int .i64 pe]); clear o1 hl1; obtain ⟨gc1, gf1⟩ := below_get b1; (try simp only [heap_drew, World.size_alloc, World.size_setCell] at gc1 gf1); have s1 := below_via (w := w) (by go_grown) b1; have H1 := s1; have hs1 := b1.size; (try simp at hs1); clear b1)
    generalize rls qs = rs at *
    have hl1 := RP.out.1
    subst hl1
    have NO := Lib.hid (nearP_ok ⟨rs, pe⟩)
    have HCI := Lib.hid (fun W h1 h2 => implCallNear_c PA rs.length pc rs pe W (by omega) h1 h2)
    have HCS := Lib.hid (fun W h1 => specCallNear_c PA rs.length pc rs pe W (by omega) h1)
    have HOI := Lib.hid (fun W h1 h2 => policyOk_c PA rs.length pc rs pe W h1 (by omega) h2)
    have HOS := Lib.hid (fun W h1 => specPolicyOk_c PA rs.length pc rs pe W h1 (by omega))
    generalize nearP ⟨rs, pe⟩ = cs at *
    obtain ⟨ok, hok⟩ : ∃ ok, ok = polOk ⟨rs, pe⟩ := ⟨_, rfl⟩
    rw [← hok] at HOI HOS
    have OK := Lib.hid hok
    clear hok
    (go_wp2_with fail); (go_at_call 5; refine (HCI.out _ (RP.out.upB (by go_grown) (by go_size)) ((HP.out.below (show Below w.heap.size w _ from below_via H1 (by go_grown))).more (by (try simp); omega))).mono ?_; rintro e w2 ⟨A2, c2, rfl, r2, b2⟩; have R2 := Lib.hid r2; have QB2 := Lib.hid (QB.out.up b2); clear r2; obtain ⟨gc2, gf2⟩ := below_get b2; (try simp only [heap_drew, World.size_alloc, World.size_setCell] at gc2 gf2); have s2 := below_via (w := w1) (by go_grown) b2; have H2 := below_via H1 s2; have hs2 := b2.size; (try simp at hs2); have z2_0 : w1.heap.size < w2.heap.size := (by omega); clear b2)
    (go_wp2_with fail); (go_at_call 6; refine (HCS.out _ ((RP.out.up s2).upB (by go_grown) (by go_size))).mono ?_; rintro e w3 ⟨A3, c3, rfl, r3, b3⟩; have R3 := Lib.hid r3; have QB3 := Lib.hid (QB2.out.up b3); clear r3; obtain ⟨gc3, gf3⟩ := below_get b3; (try simp only [heap_drew, World.size_alloc, World.size_setCell] at gc3 gf3); have s3 := below_via (w := w2) (by go_grown) b3; have H3 := below_via H2 s3; have hs3 := b3.size; (try simp at hs3); have z3_0 : w1.heap.size < w3.heap.size := (by omega); clear b3)
    have hcl := NO.out.len
    have k6 : decide ((600 : Int) < (cs.length : Int)) = false := by simp; omega
    have q0 := QB3.out.cell (i := 0) rfl
    have q1 := QB3.out.cell (i := 1) rfl
    go_upto_region 6 with fail
    go_region_held3 (fun w' => w'.cell? ⟨w1.heap.size, 0, none⟩ = some (.slice PA rs.length pc) ∧ w'.cell? ⟨w1.heap.size, 1, none⟩ = some (.int .i64 pe)) (simp [go_sem, *])
      (first
       | (go_at_call 7; refine (HOI.out _ (((RP.out.up s2).up s3).upB (by go_grown) (by go_size)) ((HP.out.below (show Below w.heap.size w _ from below_via H3 (by go_grown))).more (by (try simp); omega))).mono ?_; rintro e w4 ⟨rfl, b4⟩; obtain ⟨gc4, gf4⟩ := below_get b4; (try simp only [heap_drew, World.size_alloc, World.size_setCell] at gc4 gf4); have s4 := below_via (w := w3) (by go_grown) b4; have H4 := below_via H3 s4; have hs4 := b4.size; (try simp at hs4); have z4_0 : w1.heap.size < w4.heap.size := (by omega); clear b4)
       | (go_at_call 8; refine (HOS.out _ ((((RP.out.up s2).up s3).up s4).upB (by go_grown) (by go_size))).mono ?_; rintro e w5 ⟨rfl, b5⟩; obtain ⟨gc5, gf5⟩ := below_get b5; (try simp only [heap_drew, World.size_alloc, World.size_setCell] at gc5 gf5); have s5 := below_via (w := w4) (by go_grown) b5; have H5 := below_via H4 s5; have hs5 := b5.size; (try simp at hs5); have z5_0 : w1.heap.size < w5.heap.size := (by omega); clear b5))
    have R2w : Hid (RdC w5 w5.heap.size A2 cs.length cs) := Lib.hid (((R2.out.up s3 s3.size).up s4 s4.size).up s5 s5.size)
    have R3w : Hid (RdC w5 w5.heap.size A3 cs.length cs) := Lib.hid ((R3.out.up s4 s4.size).up s5 s5.size)
    have RPw : Hid (RdR w5 w5.heap.size PA rs.length rs) := Lib.hid ((((RP.out.up s2).up s3).up s4).up s5)
    have QBw : Hid (Blk w5 w1.heap.size 25 [.slice PA rs.length pc, .int .i64 pe]) := Lib.hid ((QB3.out.up s4).up s5)
    have HOw : Hid (∀ W, RdR W W.heap.size PA rs.length rs → Calls Tryd.prog 8 #[.agg #[.slice PA rs.length pc, .int .i64 pe]] W (RetB (.bool ok) W)) := HOS
    clear s2 s3 s4 s5 QB QB2 QB3 R2 R3 RP q0 q1 HCI HCS HOI HOS H1 s1 H2 H3 H4
    go_wp2_with fail
    go_loopg [6] cs.length (fun gk i wr => ∃ (k : Nat), gk + k = cs.length ∧ i = .int .i64 k ∧ Hid (Below w5.heap.size w5 wr))
    case atStart => exact ⟨0, rfl, rfl, Lib.hid (Below.refl _ _)⟩
    case round =>
      obtain ⟨k, hgk, rfl, HF⟩ := hrel
      have hbs := HF.out.size
      by_cases hk : gk = 0
      · subst hk
        obtain rfl : k = cs.length := by omega
        go_wp2_with fail
        obtain ⟨w6, rfl⟩ : ∃ x : World, x = wr := ⟨_, rfl⟩
        go_loopg [7] rs.length (fun gk i wr => ∃ (k : Nat), gk + k = rs.length ∧ i = .int .i64 k ∧ Hid (Below w5.heap.size w5 wr))
        case atStart => exact ⟨0, by omega, rfl, HF⟩
        case round =>
          clear HF hbs
          obtain ⟨k, hgk, rfl, HF⟩ := hrel
          have hbs := HF.out.size
          have QB := QBw.out.below HF.out z5_0
          have q0 := QB.cell (i := 0) rfl
          have q1 := QB.cell (i := 1) rfl
          have QBH := Lib.hid QB
          clear QB
          by_cases hk : gk = 0
          · subst hk
            obtain rfl : k = rs.length := by omega
            go_wp2_with fail
            go_wp2
            go_returns
            exact ⟨rfl, H5.trans (HF.out.mono H5.size)⟩
          · obtain ⟨gk, rfl⟩ : ∃ m, gk = m + 1 := ⟨gk - 1, by omega⟩
            have hlt : k < rs.length := by omega
            have g1 : decide ((k : Int) < (rs.length : Int)) = true := by simp; omega
            by_cases h6 : cs.length < 600
            · have g2 : decide ((cs.length : Int) < 600) = true := by simp; omega
              cases ok with
              | false =>
                (go_wp2_with fail); (go_at_call 8; refine (HOw.out _ ((RPw.out.below HF.out).more hbs)).mono ?_; rintro e w7 ⟨rfl, b7⟩; have F7 := Lib.hid (below_via HF.out b7))
                go_wp2
                go_returns
                exact ⟨rfl, H5.trans (F7.out.mono H5.size)⟩
              | true =>
                obtain ⟨b, off, r, rfl, hb, hrk, TA, tc, e0, e1, e2, e3, hrt, hrl⟩ := RPw.out.rl hlt
                have HLOW := Lib.hid (NO.out.low OK.out.symm h6 r (List.mem_of_getElem? hrk))
                clear e0 e2 e3 hrt hrl hrk
                (go_wp2_with fail); (go_at_call 8; refine (HOw.out _ ((RPw.out.below HF.out).more hbs)).mono ?_; rintro e w7 ⟨rfl, b7⟩; have F7 := Lib.hid (below_via HF.out b7); clear b7 q0 q1)
                generalize r.lo = lo at *
                go_wp2_with fail
                obtain ⟨ga, rfl⟩ : ∃ x : Nat, x = gk := ⟨_, rfl⟩
                go_loopg [8, 9] cs.length (fun gk v8 i wr => ∃ (j : Nat) (fd : Bool), gk + j = cs.length ∧ i = .int .i64 j ∧ v8 = .bool fd ∧ Hid (fd = (cs.take j).any (fun x => decide (x.headD 0 = lo))) ∧ Hid (Below w5.heap.size w5 wr))
                case atStart => exact ⟨0, false, by omega, rfl, rfl, Lib.hid rfl, F7⟩
                case round =>
                  clear F7 HF
                  obtain ⟨j, fd, hgj, rfl, rfl, HFD, HF⟩ := hrel
                  have hbs := HF.out.size
                  by_cases hj : gk = 0
                  · subst hj
                    obtain rfl : j = cs.length := by omega
                    have hfd : fd = true := by
                      rw [HFD.out, List.take_length, List.any_eq_true]
                      obtain ⟨i, c, hi, hc⟩ := HLOW.out
                      exact ⟨c, List.mem_of_getElem? hi, by simpa using hc⟩
                    subst hfd
                    go_wp2_with fail
                    go_roundg ga
                    case measure => omega
                    case rel =>
                      go_light
                      exact ⟨k + 1, by omega, by go_num, HF⟩
                  · obtain ⟨gk, rfl⟩ : ∃ m, gk = m + 1 := ⟨gk - 1, by omega⟩
                    have hlj : j < cs.length := by omega
                    obtain ⟨x, hx⟩ := some_at (l := cs) (k := j) rfl hlj
                    obtain ⟨b3, off3, T3, t3, rfl, hb3, h0, h1', h2⟩ := (R2w.out.below HF.out).one hx
                    have HFD2 : Hid (∀ z : Bool, z = (fd || decide (x.headD 0 = lo)) → z = (cs.take (j + 1)).any (fun x => decide (x.headD 0 = lo))) := Lib.hid (fun z hz => by
                      rw [hz, HFD.out, List.take_add_one, hx, List.any_append]; simp)
                    have p0 := (HF.out.cell (p := ⟨b, off + k * 4 + 1, none⟩) hb).trans e1
                    have QB := QBw.out.below HF.out z5_0
                    have q0 := QB.cell (i := 0) rfl
                    have m1 : (0 : Int) ≤ (j : Int) := by omega
                    have m2 : (j : Int) < (cs.length : Int) := by omega
                    have m3 : (k : Int) < (rs.length : Int) := by omega
                    have m4 : (0 : Int) ≤ (k : Int) := by omega
                    clear QB h2 h1' hx
                    generalize x.headD 0 = y at *
                    clear x
                    cases fd with
                    | true =>
                      go_upto_region 22 with fail
                      go_quiet (fail)
                      go_wp2_with fail
                      go_roundg gk
                      case measure => omega
                      case rel =>
                        go_light
                        exact ⟨j + 1, true, by omega, by go_num, rfl, Lib.hid (HFD2.out true (by simp)), Lib.hid (below_drewN' HF.out nq)⟩
                    | false =>
                      by_cases hy : y = lo
                      · have n1 : (y == lo) = true := by simpa using hy
                        have HT := Lib.hid (HFD2.out true (by simp [hy]))
                        clear hy HFD2
                        go_upto_region 22 with fail
                        go_quiet (fail)
                        go_wp2_with fail
                        go_roundg gk
                        case measure => omega
                        case rel =>
                          go_light
                          exact ⟨j + 1, true, by omega, by go_num, rfl, HT, Lib.hid (below_drewN' HF.out nq)⟩
                      · have n1 : (y == lo) = false := by simpa using hy
                        have HT := Lib.hid (HFD2.out false (by simp [hy]))
                        clear hy HFD2
                        go_upto_region 22 with fail
                        go_quiet (fail)
                        go_wp2_with fail
                        go_roundg gk
                        case measure => omega
                        case rel =>
                          go_light
                          exact ⟨j + 1, false, by omega, by go_num, rfl, HT, Lib.hid (below_drewN' HF.out nq)⟩
            · have g2 : decide ((cs.length : Int) < 600) = false := by simp; omega
              go_wp2
              go_returns
              exact ⟨rfl, H5.trans (HF.out.mono H5.size)⟩
      · obtain ⟨gk, rfl⟩ : ∃ m, gk = m + 1 := ⟨gk - 1, by omega⟩
        have hlt : k < cs.length := by omega
        obtain ⟨x, hx⟩ := some_at rfl hlt
        obtain ⟨b, off, TA, tc, rfl, hb, e0, e1, e2⟩ := (R2w.out.below HF.out).one hx
        obtain ⟨b', off', TB, td, rfl, hb', f0, f1, f2⟩ := (R3w.out.below HF.out).one hx
        have HE := Lib.hid (e2.more hbs)
        have HFF := Lib.hid (f2.more hbs)
        have HWG : Hid (∀ W, Rd W W.heap.size 1 TA 4 (ints x.tail) → Rd W W.heap.size 1 TB 4 (ints x.tail) → Calls Tryd.prog 9 #[.agg #[.int .i64 (x.headD 0), .slice TA 4 tc], .agg #[.int .i64 (x.headD 0), .slice TB 4 td]] W (RetB (.bool true) W)) := Lib.hid (fun W h1 h2 => by
          have := wgCall_d (x.headD 0) (x.headD 0) TA TB tc td x.tail x.tail W h1 h2
          simpa using this)
        have HCO : Hid (∀ W, Rd W W.heap.size 1 TA 4 (ints x.tail) → Calls Tryd.prog 10 #[.agg #[.int .i64 (x.headD 0), .slice TA 4 tc]] W (RetB (.bool true) W)) := Lib.hid (fun W h1 => by
          have := callOk_c (x.headD 0) TA 4 tc x.tail W h1 (by omega)
          rwa [(NO.out.ok x (List.mem_of_getElem? hx)).1] at this)
        have HNE : Hid (∀ m z, k = m + 1 → cs[m]? = some z → decide (z.headD 0 = x.headD 0 ∧ z.tail = x.tail) = false) := Lib.hid (fun m z hm hz => by
          subst hm
          have hne := NO.out.ne m z x hz hx
          have h5 := (NO.out.ok z (List.mem_of_getElem? hz)).2
          have h6 := (NO.out.ok x (List.mem_of_getElem? hx)).2
          rw [decide_eq_false_iff_not]
          rintro ⟨h7, h8⟩
          apply hne
          cases z with
          | nil => cases h5
          | cons a z =>
            cases x with
            | nil => cases h6
            | cons b x =>
              simp at h7 h8
              rw [h7, h8])
        clear e2 f2 hx
        generalize x.headD 0 = y at *
        generalize x.tail = zs at *
        clear x
        obtain ⟨wo, rfl⟩ : ∃ W : World, W = wr := ⟨_, rfl⟩
        go_upto_region 11 with fail
        go_region_held3 (fun w' => w'.cell? ⟨b, off + k * 2, none⟩ = some (.int .i64 y) ∧ w'.cell? ⟨b, off + k * 2 + 1, none⟩ = some (.slice TA 4 tc) ∧ w'.cell? ⟨b', off' + k * 2, none⟩ = some (.int .i64 y) ∧ w'.cell? ⟨b', off' + k * 2 + 1, none⟩ = some (.slice TB 4 td)) (simp [go_sem, *])
          (first
           | (go_at_call 9; refine (HWG.out _ (HE.out.upB (by go_grown) (by go_size)) (HFF.out.upB (by go_grown) (by go_size))).mono ?_; rintro e w6 ⟨rfl, b6⟩; have F6 : Below wo.heap.size wo w6 := below_via (by go_grown) b6; have hs6 := F6.size; have k60 := (F6.cell (p := ⟨b, off + k * 2, none⟩) (show b < wo.heap.size by omega)).trans e0; have k61 := (F6.cell (p := ⟨b, off + k * 2 + 1, none⟩) (show b < wo.heap.size by omega)).trans e1; have k62 := (F6.cell (p := ⟨b', off' + k * 2, none⟩) (show b' < wo.heap.size by omega)).trans f0; have k63 := (F6.cell (p := ⟨b', off' + k * 2 + 1, none⟩) (show b' < wo.heap.size by omega)).trans f1; have HE6 := Lib.hid (HE.out.upB F6 hs6); clear b6)
           | (go_at_call 10; refine (HCO.out _ (HE6.out.upB (by go_grown) (by go_size))).mono ?_; rintro e w7 ⟨rfl, b7⟩; have F7 : Below wo.heap.size wo w7 := F6.trans ((show Below w6.heap.size w6 w7 from below_via (by go_grown) b7).mono hs6); have hs7 := F7.size; have k70 := (F7.cell (p := ⟨b, off + k * 2, none⟩) (show b < wo.heap.size by omega)).trans e0; have k71 := (F7.cell (p := ⟨b, off + k * 2 + 1, none⟩) (show b < wo.heap.size by omega)).trans e1; have k72 := (F7.cell (p := ⟨b', off' + k * 2, none⟩) (show b' < wo.heap.size by omega)).trans f0; have k73 := (F7.cell (p := ⟨b', off' + k * 2 + 1, none⟩) (show b' < wo.heap.size by omega)).trans f1; have F7H := Lib.hid F7; have HE7 := Lib.hid (HE.out.upB F7 hs7); clear b7))
        go_wp2_with fail
        have HF7 : Hid (Below w5.heap.size w5 w7) := Lib.hid (HF.out.trans (F7.mono hbs))
        clear e0 e1 f0 f1 HE HFF HWG HCO k60 k61 k62 k63 HE6 F6 F7 k72 k73
        by_cases hk0 : k = 0
        · have kg : decide ((0 : Int) < (k : Int)) = false := by simp; omega
          clear HNE
          go_quiet (fail)
          go_wp2_with fail
          go_roundg gk
          case measure => omega
          case rel =>
            go_light
            exact ⟨k + 1, by omega, by go_num, Lib.hid (below_drewN' HF7.out nq)⟩
        · obtain ⟨m, rfl⟩ : ∃ m, k = m + 1 := ⟨k - 1, by omega⟩
          have kg : decide ((0 : Int) < ((m : Int) + 1)) = true := by rw [decide_eq_true_eq]; omega
          have f1 : (0 : Int) ≤ (m : Int) + 1 := by omega
          have f2 : (m : Int) + 1 < (cs.length : Int) := by omega
          have f3 : m < cs.length := by omega
          have f4 : (m : Int) < (cs.length : Int) := by omega
          have kw1 : IntKind.i64.wrap (m : Int) = (m : Int) := by rw [IntKind.wrap_i64]; omega
          have kw2 : IntKind.i64.wrap ((m : Int) + 1 - 1) = (m : Int) := by rw [IntKind.wrap_i64]; omega
          obtain ⟨z, hz⟩ := some_at (l := cs) (k := m) rfl (by omega)
          obtain ⟨_, _, TZ, tz, eA, hb2, g0, g1, g2⟩ := (R2w.out.below HF7.out).one hz
          injection eA with eA
          injection eA with ea eb
          subst ea eb
          have hne := HNE.out m z rfl hz
          have HZ : Hid (Rd w7 w7.heap.size 1 TZ 4 (ints z.tail)) := Lib.hid (g2.more (by omega))
          have HWN : Hid (∀ W, Rd W W.heap.size 1 TZ 4 (ints z.tail) → Rd W W.heap.size 1 TA 4 (ints zs) → Calls Tryd.prog 9 #[.agg #[.int .i64 (z.headD 0), .slice TZ 4 tz], .agg #[.int .i64 y, .slice TA 4 tc]] W (RetB (.bool false) W)) := Lib.hid (fun W h1 h2 => by
            have := wgCall_d (z.headD 0) y TZ TA tz tc z.tail zs W h1 h2
            rwa [hne] at this)
          clear g2 hne hz HNE
          generalize z.headD 0 = yz at *
          generalize z.tail = zz at *
          clear z
          go_upto_region 13 with fail
          go_region_held3 (fun w' => w'.cell? ⟨b, off + m * 2, none⟩ = some (.int .i64 yz) ∧ w'.cell? ⟨b, off + m * 2 + 1, none⟩ = some (.slice TZ 4 tz) ∧ w'.cell? ⟨b, off + (m + 1) * 2, none⟩ = some (.int .i64 y) ∧ w'.cell? ⟨b, off + (m + 1) * 2 + 1, none⟩ = some (.slice TA 4 tc)) (simp [go_sem, *])
            (first
             | (go_at_call 9; refine (HWN.out _ (HZ.out.upB (by go_grown) (by go_size)) (HE7.out.upB (by go_grown) (by go_size))).mono ?_; rintro e w8 ⟨rfl, b8⟩; have F8 : Below w7.heap.size w7 w8 := below_via (by go_grown) b8; have hs8 := F8.size; have k80 := (F8.cell (p := ⟨b, off + m * 2, none⟩) (show b < w7.heap.size by omega)).trans g0; have k81 := (F8.cell (p := ⟨b, off + m * 2 + 1, none⟩) (show b < w7.heap.size by omega)).trans g1; have k82 := (F8.cell (p := ⟨b, off + (m + 1) * 2, none⟩) (show b < w7.heap.size by omega)).trans k70; have k83 := (F8.cell (p := ⟨b, off + (m + 1) * 2 + 1, none⟩) (show b < w7.heap.size by omega)).trans k71; have HF8 := Lib.hid (HF7.out.trans (F8.mono (show w5.heap.size ≤ w7.heap.size by omega))); clear b8))
          go_wp2_with fail
          go_roundg gk
          case measure => omega
          case rel =>
            go_light
            exact ⟨m + 1 + 1, by omega, by go_num, HF8⟩
  · have k1 : decide (1048576 < (n : Int)) = true := by simp; omega
    go_enter Tryd.func3, Tryd.ntmps3
    go_wp2
    go_returns
    exact ⟨rfl, by go_grown⟩
end Go.Proofs.YtmfienlceobfeaaDoor
