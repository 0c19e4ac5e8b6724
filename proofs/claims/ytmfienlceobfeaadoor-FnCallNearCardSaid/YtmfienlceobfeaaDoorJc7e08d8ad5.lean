/- Parts of laws in one text. Conditions: each lemma's own. -/
import Derived.Test.YtmfienlceobfeaaDoorJ0afa9cccfa
import Derived.Test.YtmfienlceobfeaaDoorJ3c00a93304
import Derived.Test.YtmfienlceobfeaaDoorJ1b377cafa9
import Derived.Test.YtmfienlceobfeaaDoorTie
import Derived.Test.YtmfienlceobfeaaDoorCards
import Derived.ChangeVars
import Derived.LaidMore
import Derived.OpenVars
import Derived.Stop.Joined
import Derived.SevenTiedAt
import Derived.Lib.LaidTab
namespace Go.Proofs.YtmfienlceobfeaaDoor
set_option linter.unusedSimpArgs false
open Go.ChangeShapes Go.WideShapes Go.ChangeAt Go.RowKit
set_option linter.unusedVariables false
theorem laidMet_tl {P : Program} {x : String × DataW Unit} {r : List (String × DataW Unit)} {w : World} (h : laidMet P (x :: r) w) : laidMet P r w := by
  obtain ⟨ps, h1, h2, h3⟩ := h
  obtain ⟨g, t, cs, fuel, p, q, a1, a2, a3, a4, a5, rfl⟩ := h1
  exact ⟨q, a5, (List.nodup_append.1 h2).2.1, fun b off hb => h3 b off (List.mem_append_right _ hb)⟩
theorem g_pow : Tryd.prog.globalNamed "internal/strconv.uint64pow10" = some 0 := by kernel_rfl
theorem pow_tab {H : Type} : Rows.laid_internal_strconv_uint64pow10 (H := H) = Lib.tabData .u64 Lib.pow10Tab := rfl
theorem pt_of_laid {W : World} (h : laidMetH Tryd.prog [("math/bits.deBruijn32tab", Rows.laid_math_bits_deBruijn32tab), ("math/bits.deBruijn64tab", Rows.laid_math_bits_deBruijn64tab), ("internal/strconv.uint64pow10", Rows.laid_internal_strconv_uint64pow10)] W) : PT W W.heap.size := by
  rw [MakeChecks.laidMetH_plain _ _ _ (by kernel_rfl)] at h
  have h3 := laidMet_tl (laidMet_tl h)
  rw [pow_tab] at h3
  have hT := Lib.tabIs_of_head (t := 118) (e := 100) (n := 20) g_pow (by kernel_rfl) Tryd.underlying118 Tryd.underlying100 (by kernel_rfl) (by kernel_rfl) h3
  have hc := hT.cell g_pow 0 (by rw [Lib.pow10Tab_length]; omega)
  exact ⟨0, g_pow, World.block_lt_of_cell? W _ hc, hT⟩
theorem laid_met (os : Os) (args : Array Value) : laidMetH Tryd.prog [("math/bits.deBruijn32tab", Rows.laid_math_bits_deBruijn32tab), ("math/bits.deBruijn64tab", Rows.laid_math_bits_deBruijn64tab), ("internal/strconv.uint64pow10", Rows.laid_internal_strconv_uint64pow10)] ((World.doorLaid Tryd.prog 400 os).forCall (fun _ _ => 0) ⟨#[], args, []⟩).memory :=
  laidMetH_of_parts3 (fuel := 8) (laidMet_of_run' 8 (by kernel_rfl) (by kernel_rfl)) (by kernel_rfl) (by kernel_rfl)
end Go.Proofs.YtmfienlceobfeaaDoor
namespace Go.Proofs.YtmfienlceobfeaaDoor
set_option linter.unusedSimpArgs false
open Go.RowKit
theorem ruleN_mem {rs : List Rl} {r : Rl} (h : r ∈ rs) : r.ts.length ≤ ruleN rs := by
  obtain ⟨k, hk⟩ := List.mem_iff_getElem?.1 h
  have h1 := ruleN_succ hk
  have h2 : ruleN (rs.take (k + 1)) ≤ ruleN rs := ruleN_le
  omega
end Go.Proofs.YtmfienlceobfeaaDoor
