/- Policies: toPolicy, szPolicy, eqPolicy. Conditions: each contract's own. -/
import Derived.Test.YtljgaepgblakhaaDoorPol2
namespace Go.Proofs.YtljgaepgblakhaaDoor
set_option linter.unusedSimpArgs false
open Go.RowKit
set_option linter.unusedVariables false
set_option linter.unnecessarySimpa false
theorem toPolicy_c (A : Option Addr) (n c : Nat) (rs : List Rl) (e : Int) (w : World) (hr : RdR w w.heap.size A n rs) (hn : n ≤ 1048576) (hts : ∀ r ∈ rs, r.ts.length ≤ 1048576) :
    Calls Tryd.prog 40 #[.agg #[.slice A n c, .int .i64 e]] w (fun x w' => ∃ A' c', x = .returned (.agg #[.slice A' n c', .int .i64 e]) ∧ OwnR w' w.heap.size 83 A' n rs ∧ Below w.heap.size w w') := by
  have HR := Lib.hid hr
  have HT := Lib.hid hts
  clear hr hts
  go_enter Tryd.func40, Tryd.ntmps40
  go_wp2_with (go_at_call 90; refine (toRuleS_c A n c rs _ (HR.out.upB (by go_grown) (by go_size)) hn HT.out).mono ?_; rintro e w' ⟨A2, c2, rfl, hown, hbel⟩; obtain ⟨gc, gf⟩ := below_get hbel; have hb := below_via (w := w) (by go_grown) hbel)
  refine bodyPost_ret (v := .agg #[.slice A2 n c2, .int .i64 e]) (by simp [results, Tryd.results40, go_sem, gc]) rfl ?_
  go_light
  have h1 := hown.far (a := ⟨w.heap.size + 1 + 1, 0, none⟩) (by simp) (.slice A2 n c2)
  have h2 := h1.far (a := ⟨w.heap.size + 1 + 1, 1, none⟩) (by simp) (.int .i64 e)
  have h3 := h2.far (a := ⟨w.heap.size + 1, 0, none⟩) (by simp) (.slice A2 n c2)
  have h4 := h3.far (a := ⟨w.heap.size + 1, 1, none⟩) (by simp) (.int .i64 e)
  exact ⟨_, _, rfl, h4.lower (by simp; omega), by go_grown⟩
theorem szPolicy_c (A : Option Addr) (n c : Nat) (rs : List Rl) (e l : Int) (w : World) (hr : RdR w w.heap.size A n rs) (hn : n ≤ 9223372036854775807) (h1 : 0 ≤ l) (h2 : l ≤ 9223372036854775807) :
    Calls Tryd.prog 39 #[.agg #[.slice A n c, .int .i64 e], .int .i64 l] w (RetB (.int .i64 (szV l (n + ruleN rs))) w) := by
  have HR := Lib.hid hr
  clear hr
  go_enter Tryd.func39, Tryd.ntmps39
  go_wp2_with (go_at_call 89; refine (szRuleS_c A n c rs l _ (HR.out.upB (by go_grown) (by go_size)) hn h1 h2).mono ?_; rintro e w1 ⟨rfl, b1⟩; obtain ⟨gc1, gf1⟩ := below_get b1; (try simp only [heap_drew, World.size_alloc, World.size_setCell] at gc1 gf1); have s1 := below_via (w := w) (by go_grown) b1; have H1 := s1; have hs1 := b1.size; (try simp at hs1); have z1_0 : w.heap.size < w1.heap.size := (by omega); clear b1)
  all_goals go_returns
  all_goals (refine ⟨retv ?_, by go_grown⟩)
  all_goals go_light
  all_goals (simp [szV] at *; try omega)
theorem eqPolicy_c (A B : Option Addr) (n c m d : Nat) (rs rs' : List Rl) (e e' : Int) (w : World) (hx : RdR w w.heap.size A n rs) (hy : RdR w w.heap.size B m rs') (hn : n ≤ 9223372036854775807) (hm : m ≤ 9223372036854775807) :
    Calls Tryd.prog 41 #[.agg #[.slice A n c, .int .i64 e], .agg #[.slice B m d, .int .i64 e']] w (RetB (.bool (decide (rs = rs') && e == e')) w) := by
  have HR := Lib.hid hx
  have HQ := Lib.hid hy
  clear hx hy
  go_enter Tryd.func41, Tryd.ntmps41
  go_wp2_with (go_at_call 91; refine (eqRuleS_c A B n c m d rs rs' _ (HR.out.upB (by go_grown) (by go_size)) (HQ.out.upB (by go_grown) (by go_size)) hn hm).mono ?_; rintro e w1 ⟨rfl, b1⟩; obtain ⟨gc1, gf1⟩ := below_get b1; (try simp only [heap_drew, World.size_alloc, World.size_setCell] at gc1 gf1); have s1 := below_via (w := w) (by go_grown) b1; have H1 := s1; have hs1 := b1.size; (try simp at hs1); have z1_0 : w.heap.size < w1.heap.size := (by omega); clear b1)
  all_goals go_returns
  all_goals (refine ⟨retv ?_, by go_grown⟩)
  all_goals go_light
  all_goals simp_all
end Go.Proofs.YtljgaepgblakhaaDoor
