/- Contracts of the functions that copy and compare calls; the walk of FnExactCallOk. Conditions: each contract's own. -/
import Derived.Test.YtbijlencoilchaaCall
import Derived.Deep.RegionHeld3
namespace Go.Proofs.Ytbijlencoilchaa
open Go.RowKit
set_option linter.unusedVariables false
/-- The call returns a call of its own: the number, and new memory that reads as xs. -/
def RetCall (E : Nat) (num : Int) (n : Nat) (xs : List Int) (w : World) (e : Ending) (w' : World) : Prop :=
  ∃ A c, e = .returned (.agg #[.int .i64 num, .slice A n c]) ∧ w'.ownsRow w.heap.size E 1 (.slice A n c) n (ints xs) ∧ Below w.heap.size w w'
theorem toCall_c (num : Int) (A : Option Addr) (n c : Nat) (xs : List Int) (w : World) (hr : Rd w w.heap.size 1 A n (ints xs)) (hn : n ≤ 1048576) :
    Calls Try.prog 17 #[.agg #[.int .i64 num, .slice A n c]] w (RetCall 3 num n xs w) := by
  have HR := Lib.hid hr
  clear hr
  go_enter Try.func17, Try.ntmps17
  go_wp2_with (go_at_call 44; refine (toIntS_c A n c xs _ (HR.out.upB (by go_grown) (by go_size)) hn).mono ?_; rintro e w' ⟨A2, c2, rfl, hown, hbel⟩; obtain ⟨gc, gf⟩ := below_get hbel; have hb := below_via (w := w) (by go_grown) hbel)
  refine bodyPost_ret (v := .agg #[.int .i64 num, .slice A2 n c2]) (by simp [results, Try.results17, go_sem, gc]) rfl ?_
  go_light
  have h1 := ownsRow_setCell_below hown (a := ⟨w.heap.size + 1 + 1, 1, none⟩) (by simp) (.slice A2 n c2)
  have h2 := ownsRow_setCell_below h1 (a := ⟨w.heap.size + 1, 0, none⟩) (by simp) (.int .i64 num)
  have h3 := ownsRow_setCell_below h2 (a := ⟨w.heap.size + 1, 1, none⟩) (by simp) (.slice A2 n c2)
  exact ⟨_, _, rfl, own_base h3 (by simp; omega), by go_grown⟩
theorem eqCall_c (num1 num2 : Int) (A B : Option Addr) (n c m d : Nat) (xs ys : List Int) (w : World) (hx : Rd w w.heap.size 1 A n (ints xs)) (hy : Rd w w.heap.size 1 B m (ints ys)) (hn : n ≤ 9223372036854775807) (hm : m ≤ 9223372036854775807) :
    Calls Try.prog 19 #[.agg #[.int .i64 num1, .slice A n c], .agg #[.int .i64 num2, .slice B m d]] w (RetB (.bool (num1 == num2 && xs == ys)) w) := by
  have HX := Lib.hid hx
  have HY := Lib.hid hy
  clear hx hy
  go_enter Try.func19, Try.ntmps19
  go_wp2_with (go_at_call 46; refine (eqIntS_c A B n c m d xs ys _ (HX.out.upB (by go_grown) (by go_size)) (HY.out.upB (by go_grown) (by go_size)) hn hm).mono ?_; rintro e w' ⟨rfl, hbel⟩; have hb := below_via (w := w) (by go_grown) hbel)
  all_goals go_returns
  all_goals refine ⟨retv ?_, by go_grown⟩
  all_goals go_light
  all_goals simp_all
theorem callOk_law (num : Int) (A : Option Addr) (n c : Nat) (xs : List Int) (w : World) (hr : Rd w w.heap.size 1 A n (ints xs)) (hn : n ≤ 9223372036854775807) :
    Calls Try.prog 5 #[.agg #[.int .i64 num, .slice A n c]] w (RetB (.bool true) w) := by
  have HR := Lib.hid hr
  clear hr
  by_cases hbig : n ≤ 1048576
  · go_enter Try.func5, Try.ntmps5
    go_wp2_with (go_at_call 15; refine (szCall_c num A n c _ _ hn (by omega) (by omega)).mono ?_; rintro e w1 ⟨rfl, b1⟩; obtain ⟨gc1, gf1⟩ := below_get b1; (try simp only [heap_drew, World.size_alloc, World.size_setCell] at gc1 gf1); have s1 := below_via (w := w) (by go_grown) b1; have H1 := s1; have hs1 := b1.size; (try simp at hs1); have z1_0 : w.heap.size < w1.heap.size := (by omega); clear b1)
    · exfalso
      rename (szV _ _ < 0) => h
      simp [szV] at h; omega
    · rename (0 ≤ szV _ _) => h; clear h
      go_wp2_with (go_at_call 17; refine (toCall_c num A n c xs _ ((HR.out.up s1).upB (by go_grown) (by go_size)) hbig).mono ?_; rintro e w2 ⟨A2, c2, rfl, hown, b2⟩; obtain ⟨gc2, gf2⟩ := below_get b2; (try simp only [heap_drew, World.size_alloc, World.size_setCell] at gc2 gf2); have s2 := below_via (w := w1) (by go_grown) b2; have H2 := below_via H1 s2; have hs2 := b2.size; (try simp at hs2); have z2_0 : w.heap.size < w2.heap.size := (by omega); clear b2; have R2 := Lib.hid (Rd.of_own hown); clear hown)
      go_wp2_with (go_at_call 16; refine (specCallOk_c num A2 n c2 xs _ (R2.out.upB (by go_grown) (by go_size)) hn).mono ?_; rintro e w3 ⟨rfl, b3⟩; obtain ⟨gc3, gf3⟩ := below_get b3; (try simp only [heap_drew, World.size_alloc, World.size_setCell] at gc3 gf3); have s3 := below_via (w := w2) (by go_grown) b3; have H3 := below_via H2 s3; have hs3 := b3.size; (try simp at hs3); have z3_0 : w.heap.size < w3.heap.size := (by omega); clear b3)
      go_wp2_with (go_at_call 17; refine (toCall_c num A n c xs _ ((((HR.out.up s1).up s2).up s3).upB (by go_grown) (by go_size)) hbig).mono ?_; rintro e w4 ⟨A4, c4, rfl, hown4, b4⟩; obtain ⟨gc4, gf4⟩ := below_get b4; (try simp only [heap_drew, World.size_alloc, World.size_setCell] at gc4 gf4); have s4 := below_via (w := w3) (by go_grown) b4; have H4 := below_via H3 s4; have hs4 := b4.size; (try simp at hs4); have z4_0 : w.heap.size < w4.heap.size := (by omega); clear b4; have R4 := Lib.hid (Rd.of_own hown4); clear hown4)
      go_wp2_with (go_at_call 18; refine (callOk_c num A4 n c4 xs _ (R4.out.upB (by go_grown) (by go_size)) hn).mono ?_; rintro e w5 ⟨rfl, b5⟩; obtain ⟨gc5, gf5⟩ := below_get b5; (try simp only [heap_drew, World.size_alloc, World.size_setCell] at gc5 gf5); have s5 := below_via (w := w4) (by go_grown) b5; have H5 := below_via H4 s5; have hs5 := b5.size; (try simp at hs5); have z5_0 : w.heap.size < w5.heap.size := (by omega); have z5_1 : w4.heap.size < w5.heap.size := (by omega); clear b5)
      go_region_held3 (fun w' => w'.cell? ⟨w.heap.size, 0, none⟩ = some (.int .i64 num) ∧ w'.cell? ⟨w.heap.size, 1, none⟩ = some (.slice A n c) ∧ w'.cell? ⟨w4.heap.size, 0, none⟩ = some (.int .i64 num) ∧ w'.cell? ⟨w4.heap.size, 1, none⟩ = some (.slice A4 n c4)) (simp [go_sem, *])
        (first
         | (go_at_call 17; refine (toCall_c num A n c xs _ ((((((HR.out.up s1).up s2).up s3).up s4).up s5).upB (by go_grown) (by go_size)) hbig).mono ?_; rintro e w6 ⟨A6, c6, rfl, hown6, b6⟩; obtain ⟨gc6, gf6⟩ := below_get b6; (try simp only [heap_drew, World.size_alloc, World.size_setCell] at gc6 gf6); have s6 := below_via (w := w5) (by go_grown) b6; have H6 := below_via H5 s6; have hs6 := b6.size; (try simp at hs6); have z6_0 : w.heap.size < w6.heap.size := (by omega); have z6_1 : w4.heap.size < w6.heap.size := (by omega); clear b6; have R6 := Lib.hid (Rd.of_own hown6); clear hown6)
         | (go_at_call 19; refine (eqCall_c num num A4 A6 n c4 n c6 xs xs _ (((R4.out.up s5).up s6).upB (by go_grown) (by go_size)) (R6.out.upB (by go_grown) (by go_size)) hn hn).mono ?_; rintro e w7 ⟨rfl, b7⟩; obtain ⟨gc7, gf7⟩ := below_get b7; (try simp only [heap_drew, World.size_alloc, World.size_setCell] at gc7 gf7); have s7 := below_via (w := w6) (by go_grown) b7; have H7 := below_via H6 s7; have hs7 := b7.size; (try simp at hs7); have z7_0 : w.heap.size < w7.heap.size := (by omega); have z7_1 : w4.heap.size < w7.heap.size := (by omega); clear b7))
      go_wp2
      go_returns
      exact ⟨rfl, by go_grown⟩
  · go_enter Try.func5, Try.ntmps5
    go_wp2_with (go_at_call 15; refine (szCall_c num A n c _ _ hn (by omega) (by omega)).mono ?_; rintro e w1 ⟨rfl, b1⟩; obtain ⟨gc1, gf1⟩ := below_get b1; (try simp only [heap_drew, World.size_alloc, World.size_setCell] at gc1 gf1); have s1 := below_via (w := w) (by go_grown) b1; have H1 := s1; have hs1 := b1.size; (try simp at hs1); clear b1)
    · go_returns
      exact ⟨rfl, by go_grown⟩
    · exfalso
      rename (0 ≤ szV _ _) => h
      simp [szV] at h; split at h <;> omega
end Go.Proofs.Ytbijlencoilchaa
