/- Parts of laws in one text. Conditions: each lemma's own. -/
import Derived.Test.YtmfienlceobfeaaDoorJ0186c30aec
import Derived.Test.YtmfienlceobfeaaDoorJ6c099d9187
import Derived.Test.YtmfienlceobfeaaDoorJc91dc9a385
namespace Go.Proofs.YtmfienlceobfeaaDoor
set_option linter.unusedSimpArgs false
open Go.RowKit
set_option linter.unusedVariables false
set_option linter.unnecessarySimpa false
set_option maxRecDepth 20000
/-- The calls near a policy; none where it is none. -/
def nearP (p : Pol) : List (List Int) := if polOk p = true then nearC p.rs 600 else []
theorem specCallNear_c (A : Option Addr) (n c : Nat) (rs : List Rl) (e : Int) (w : World) (hn : n ≤ 9223372036854775807) (hr : RdR w w.heap.size A n rs) :
    Calls Tryd.prog 6 #[.agg #[.slice A n c, .int .i64 e]] w (RetCalls (nearP ⟨rs, e⟩) w) := by
  have hl1 := hr.1
  subst hl1
  have HR := Lib.hid hr
  have hO1 := fun W h => specPolicyOk_c A rs.length c rs e W h hn
  by_cases h1 : polOk ⟨rs, e⟩ = true
  · rw [h1] at hO1
    have HO1 := Lib.hid hO1
    have hB := polOk_rules h1
    have HN := Lib.hid (fun W h => l13Near_c A rs.length c rs e 600 W hB.1 (by omega) h hB.2)
    unfold nearP
    rw [if_pos h1]
    clear hO1 h1 hr
    go_enter Tryd.func6, Tryd.ntmps6
    (go_wp2_with fail); (go_at_call 8; refine (HO1.out _ (HR.out.upB (by go_grown) (by go_size))).mono ?_; rintro e w1 ⟨rfl, b1⟩; obtain ⟨gc1, gf1⟩ := below_get b1; (try simp only [heap_drew, World.size_alloc, World.size_setCell] at gc1 gf1); have s1 := below_via (w := w) (by go_grown) b1; have H1 := s1; have hs1 := b1.size; (try simp at hs1); have z1_0 : w.heap.size < w1.heap.size := (by omega); clear b1)
    (go_wp2_with fail); (go_at_call 16; refine (HN.out _ (HR.out.upB H1 (by omega))).mono ?_; rintro e w2 ⟨A2, c2, rfl, r2, b2⟩; have R2 := Lib.hid r2; have H2 := below_via H1 b2; clear r2 b2)
    go_wp2
    go_returns
    exact ⟨A2, c2, rfl, R2.out, H2⟩
  · rw [show polOk ⟨rs, e⟩ = false by simpa using h1] at hO1
    have HO1 := Lib.hid hO1
    unfold nearP
    rw [if_neg h1]
    clear hO1 h1 hr
    go_enter Tryd.func6, Tryd.ntmps6
    (go_wp2_with fail); (go_at_call 8; refine (HO1.out _ (HR.out.upB (by go_grown) (by go_size))).mono ?_; rintro e w1 ⟨rfl, b1⟩; obtain ⟨gc1, gf1⟩ := below_get b1; (try simp only [heap_drew, World.size_alloc, World.size_setCell] at gc1 gf1); have s1 := below_via (w := w) (by go_grown) b1; have H1 := s1; have hs1 := b1.size; (try simp at hs1); have z1_0 : w.heap.size < w1.heap.size := (by omega); clear b1)
    go_wp2
    go_returns
    exact ⟨_, _, rfl, ⟨rfl, fun h => absurd h (by simp)⟩, by go_grown⟩
end Go.Proofs.YtmfienlceobfeaaDoor
namespace Go.Proofs.YtmfienlceobfeaaDoor
set_option linter.unusedSimpArgs false
open Go.RowKit
set_option linter.unusedVariables false
set_option linter.unnecessarySimpa false
set_option maxRecDepth 20000
theorem int_atW {xs : List Int} {j : Nat} {x : Int} (h : xs[j]? = some x) : (ints xs)[j]? = some (.int .i64 x) := by simp [ints, h]
theorem take_more {xs ys : List Int} {j : Nat} {x : Int} (h : xs.take j = ys.take j) (hx : xs[j]? = some x) (hy : ys[j]? = some x) : xs.take (j + 1) = ys.take (j + 1) := by
  rw [List.take_add_one, List.take_add_one, h, hx, hy]
set_option maxHeartbeats 1600000 in
theorem wgInts_d (A B : Option Addr) (n c d : Nat) (xs ys : List Int) (w : World) (hx : Rd w w.heap.size 1 A n (ints xs)) (hy : Rd w w.heap.size 1 B n (ints ys)) (hn : n ≤ 9223372036854775807) :
    Calls Tryd.prog 21 #[.slice A n c, .slice B n d] w (RetB (.bool (decide (xs = ys))) w) := by
  have HX := Lib.hid hx
  have HY := Lib.hid hy
  have hlx : xs.length = n := by simpa [ints] using hx.1
  have hly : ys.length = n := by simpa [ints] using hy.1
  clear hx hy
  obtain ⟨dd, hdd⟩ : ∃ dd, dd = decide (xs = ys) := ⟨_, rfl⟩
  rw [← hdd]
  have HD := Lib.hid hdd
  clear hdd
  go_enter Tryd.func21, Tryd.ntmps21
  go_wp2
  go_loopg [5] n (fun gk i wr => ∃ (j : Nat), gk + j = n ∧ i = .int .i64 j ∧ Hid (xs.take j = ys.take j) ∧ Below w.heap.size w wr)
  case atStart => exact ⟨0, rfl, rfl, Lib.hid rfl, Below.refl _ _⟩
  case round =>
    obtain ⟨j, hgk, rfl, HT, hbel⟩ := hrel
    by_cases hlt : j < n
    · obtain ⟨gk, rfl⟩ : ∃ m, gk = m + 1 := ⟨gk - 1, by omega⟩
      obtain ⟨x, hx⟩ := some_at hlx hlt
      obtain ⟨y, hy⟩ := some_at hly hlt
      obtain ⟨b, off, rfl, hb, hc⟩ := HX.out.2 (by omega)
      obtain ⟨b2, off2, rfl, hb2, hc2⟩ := HY.out.2 (by omega)
      have hcell := (hbel.cell (p := ⟨b, off + j, none⟩) hb).trans (hc j _ (int_atW hx))
      have hcell2 := (hbel.cell (p := ⟨b2, off2 + j, none⟩) hb2).trans (hc2 j _ (int_atW hy))
      clear hc hc2
      by_cases hxy : x = y
      · subst hxy
        have HT2 := Lib.hid (take_more HT.out hx hy)
        clear hx hy hlx hly
        go_wp2
        go_region
        go_wp2
        go_roundg gk
        case measure => omega
        case rel =>
          go_light
          exact ⟨j + 1, by omega, by go_num, HT2, hbel.drew⟩
      · have k0 : (x != y) = true := by simpa using hxy
        have hF : dd = false := by
          rw [HD.out, decide_eq_false_iff_not]
          rintro rfl
          rw [hx] at hy
          injection hy with hy
          exact hxy hy
        subst hF
        clear hx hy hlx hly hxy HD
        go_wp2
        go_region
        go_wp2
        go_returns
        exact ⟨rfl, hbel.drew⟩
    · obtain rfl : j = n := by omega
      have hF : dd = true := by
        have h := HT.out
        rw [List.take_of_length_le (by omega), List.take_of_length_le (by omega)] at h
        rw [HD.out]; simpa using h
      subst hF
      clear hlx hly HD
      go_wp2
      go_returns
      exact ⟨rfl, hbel⟩
set_option maxHeartbeats 1600000 in
theorem wgCall_d (a b : Int) (A B : Option Addr) (c d : Nat) (xs ys : List Int) (w : World) (hx : Rd w w.heap.size 1 A 4 (ints xs)) (hy : Rd w w.heap.size 1 B 4 (ints ys)) :
    Calls Tryd.prog 9 #[.agg #[.int .i64 a, .slice A 4 c], .agg #[.int .i64 b, .slice B 4 d]] w (RetB (.bool (decide (a = b ∧ xs = ys))) w) := by
  have HX := Lib.hid hx
  have HY := Lib.hid hy
  clear hx hy
  by_cases hab : a = b
  · have k0 : (a == b) = true := by simpa using hab
    have hv : decide (a = b ∧ xs = ys) = decide (xs = ys) := by simp [hab]
    rw [hv]
    have HW := Lib.hid (fun W h1 h2 => wgInts_d A B 4 c d xs ys W h1 h2 (by omega))
    generalize decide (xs = ys) = dd at *
    clear hab hv
    go_enter Tryd.func9, Tryd.ntmps9
    (go_wp2_with fail); (go_at_call 21; refine (HW.out _ (HX.out.upB (by go_grown) (by go_size)) (HY.out.upB (by go_grown) (by go_size))).mono ?_; rintro e w1 ⟨rfl, b1⟩; skip)
    go_wp2
    go_returns
    exact ⟨rfl, below_via (by go_grown) b1⟩
  · have k0 : (a == b) = false := by simpa using hab
    have hv : decide (a = b ∧ xs = ys) = false := by simp [hab]
    rw [hv]
    clear hab hv
    go_enter Tryd.func9, Tryd.ntmps9
    go_wp2
    go_returns
    exact ⟨rfl, by go_grown⟩
end Go.Proofs.YtmfienlceobfeaaDoor
